import Derived.Test.YtlfleicchbgcmaaGreatZr17
import Derived.Test.YtlfleicchbgcmaaGreatZr0
import Derived.Test.YtlfleicchbgcmaaGreatZrK
set_option linter.all false
set_option maxHeartbeats 16000000
set_option maxRecDepth 100000
namespace Go.Proofs.YtlfleicchbgcmaaGreat
section
open Go.ConcN (sumTo)
open Go.RowKit Go.Conc Co Ok Lr Tl Bar
theorem Dj {α:Type}(n:Nat)(f:Nat->Nat->α):∀i,(rowsOf n f i).length=i*n
 | 0=>by simp[rowsOf]
 | i+1=>by rw[Ha,Apz,Dj n f i,Aqs,List.length_range,Arb]
theorem R7 {cx cy d n:Nat}{Ca:Bool}{xs:List Nat}{ys:List Int}(v:Value)(V:World)(τ:Tape)(k:Nat)(h:N9 cx cy d n Ca xs ys v V):N9 cx cy d n Ca xs ys v { V with tape:=τ,drawn:=k }:=h
theorem Alc {X:Cx}{B:Lk}:VR X B Pg Pg:=.agg rfl fun i v v' h1 h2=>by
 rw[h1]at h2
 cases h2
 match i with
 | 0=>cases h1;exact .Lz _ _
 | 1=>cases h1;exact .Lz _ _
 | i+2=>cases h1
theorem Aah {cx cy d n:Nat}{A4:Int}{px py:Nat->Nat->Nat}{bx:Nat->Nat->Value}{st:Nat->Nat->Int}{sm:Nat->Nat->Nat}{ex ey:Nat}(C:L3 cx cy d n A4 px py bx st sm)(hn:n<=8)(hn0:0<n)
 (h:∀W,Calls Vp.prog 31 #[.complex .f32 cx cy,.int .i64 d,.int .i64 n] W fun e w'=>e=.returned (.bool true)/\W=w') (hp:∀W,Calls Vp.prog 32 #[.complex .f32 cx cy,.int .i64 d,.int .i64 n,.int .i64 n] W fun e w'=>e=.returned (.complex .f32 ex ey)/\W=w')
 (hf1:(FloatKind.f32.format.order ex 1090519040 == some .gt)=false) (hf2:(FloatKind.f32.format.order ey 1090519040 == some .gt)=false) {c0:Frame} {bs:List Frame} {gs:Array Goroutine} {w:World} {sl:Option (Nat×Nat)} {t:Trace} {q:Nat->Nat}
 (hN:Vp.prog.globals.size<=w.heap.size) (h0:gs[0]?=some (G (Frame.enter Tryz.prog 15 (Yf cx cy d n A4) .normal) (c0 :: bs))) (hL:Leavers Tryz.prog t gs q) (hP:Past (fun _=>False) w.heap.size t) :
 ∃gs' w' sl' t' q' v',Kn Tryz.prog gs w sl t gs' w' sl' t'/\gs'.size=gs.size+1/\gs'[0]?=some (G (c0.finish v') bs)/\Leavers Tryz.prog t' gs' q'/\Past (fun _=>False) w'.heap.size t'/\w.heap.size<=w'.heap.size /\(∀x,x<w.heap.size->w'.heap[x]?=w.heap[x]?) /\
  w'.tape=w.tape/\w'.os=w.os/\w'.output=w.output/\Wk cx cy d n (rowsOf n sm n) (rowsOf n st n) w.heap.size v' w':=by
 obtain⟨gs1,w1,sl1,t1,q1,B,V,ww,b',a,a',e',c,L,rb,ob,gS,gM,r1,z1,g1,g2,sit,hLe,hMS,y1,y2,y3,y4,y5,hTX⟩:=A2x (A4:=A4) hn h hp hf1 hf2 (sl:=sl) hN h0 hL hP
 have hA:Co Tryz.prog true (c0 :: bs) (L5 (Xs w.heap.size fun _=>False) B) (fun L fr cs W=>Hj Tryz.prog true (c0 :: bs) c (.recv Pg) fr cs/\Sm w.heap.size c w.heap.size cx cy d n 0 [] [] (L5 (Xs w.heap.size fun _=>False) B) L fr cs W) (Gf (Xs w.heap.size fun _=>False) B) (b'.at a' (.inRegion Ez [] :: [.code e'])) [] w1:=by
  refine Co.Jr (WH.hot ⟨V,rfl,hMS.wr⟩) fun W2 hr=>?_
  exact A3u (ww:=ww) (rb:=rb) (ob:=ob) (gS:=gS) (gM:=gM) (hMS.rely hr) (Ap3 sit.kept.1 hr.1) fun τ k=>Ac0 y1 y2 y3 y4 y5 (El hTX τ k)
 rw[Ig,<-hLe]at hA;have hc1:c<w1.heap.size:=by obtain⟨s,tm,hc⟩:=sit.chan;exact(Aoz.1 hc).1
 have hS:=A9t (A4:=A4) C hn hn0 (c:=c) hc1 (Ap3 hN sit.kept.1)
 have hb0:Aei w.heap.size c w.heap.size gs.size cx cy d n st sm w (c0 :: bs) 0 n gs1 w1 t1 q1 L (fun _=>False) (fun _=>False) _ _ [] [] w1 w1 :=
  ⟨by rw[Nat.zero_mul];exact hA,hS,sit,g1,g2,C3 _ _ _,C3 _ _ _⟩
 obtain⟨gs2,w2,sl2,t2,q2,La2,Lb2,R2,fra2,frb2,csa2,csb2,Wa2,Wb2,r2,z2,hb⟩:=Xx hn hN n 0 (by omega) (sl:=sl1) hb0
 have hS2:=hb.S;unfold Qa at hS2;obtain⟨gs3,w3,sl3,t3,q3,La3,fr3,cs3,W3,r3,z3,g3,hK,hr3,hL3,hP3,hlow3,hdis3,hR3,hkept3⟩:=finish (K:=fun L fr cs W=>Sm w.heap.size c w.heap.size cx cy d n (n*n) (rowsOf n sm n) (rowsOf n st n) R2 L fr cs W) hb.A hS2 (sl:=sl2) hb.sit hb.ga hb.gb hb.ra hb.rb
 obtain⟨F,B3,V3,ww3,a3,a3',b3',k3',rb3,ob3,gS3,gM3,rfl,rfl,hMS3,hMA3,hTX3,rfl,rfl⟩:=hK;have hMS4:=hMS3.rely hr3
 have hCo:=Sq (base:=c0 :: bs) (Post:=N7 (Xs w.heap.size F) V3.heap.size w3.heap.size B3 (Fin Vp.prog (N9 cx cy d n true (rowsOf n sm n) (rowsOf n st n)))) (vV:=Pg) (vW:=Pg) (y:=false) hMS4 hMA3.size Alc fun τ k W2 hsz hM =>
  (A2l (cx:=cx) (cy:=cy) (d:=d) (n:=n) (Ca:=true) (xs:=rowsOf n sm n) (ys:=rowsOf n st n) hM.wr hM.fr fun τ' k'=>⟨{ ww3 with tape:=τ',drawn:=k' },Afa hMA3.Akw (by
   rw[Cz (by decide)]
   exact Apa (by rw[hMA3.size];decide)) (Apa (by rw[F5,hMA3.size];decide)) (El hTX3 τ' k')⟩).mono fun _ _ _ _ x=>A02 x hsz
 obtain⟨N4,gs4,fr4,cs4,w4,W4,sl4,t4,q4,L4,k1,k2,k3,k4,k5,k6,k7,k8,_,_⟩:=K5 hCo gs3 w3 sl3 t3 q3 g3 (C3 _ _ _) (fun x hx=>(hR3 x hx).2) hL3 hP3
 obtain⟨rfl,hret⟩:=Qw (m:=true) (Mu w.heap.size F) (Q:=N9 cx cy d n true (rowsOf n sm n) (rowsOf n st n)) R7 k4 (R:=L5 (Xs w.heap.size F) B3) fun B1 hg _=>Zm hMS4.wr hg
 obtain⟨N5,gs5,d5,sl5,t5,q5,j1,j2,j3,j4,j5,_,d6,sl6,j6⟩:=S9 (P:=Tryz.prog) (sumTo gs4.size q4) gs4 w4 sl4 t4 q4 rfl k3 k6 k7;obtain⟨v',W6,n6,L6,hdid,hst,B6,V6,v6,hg6,hq6,hv6,hw6,rfl⟩:=hret (w4.at d6) (Am k5 d6);obtain⟨gs7,ops,i1,i2,i3,i4,i5⟩:=Pz (sl:=sl6) (w:=w4.at d6) j3 (hst c0 bs) hdid (fun x hx=>Ap6 (hR3 x hx).2 k8.size) j4 j5
 have hrun:Kn Tryz.prog gs w sl t gs7 W6 sl6 (t5++ops):=(r1.trans (r2.trans (r3.trans (Kn.trans ⟨N4,k1⟩ ⟨N5,j1⟩)))).trans (Kn.head (by rw[j6];exact i1) .refl)
 have hL4:∀x,L4 x->w.heap.size<=x:=fun x hx=>by
  rcases k8.new x hx with y|y
  ·exact hlow3 x (.inl y)
  ·exact Ap3 hkept3.1 y
 refine⟨gs7,W6,sl6,t5++ops,q5,v',hrun,by rw[i2,j2,k2,z3,z2,z1],i3,i4,i5,Ap3 hkept3.1 (Ap3 k8.size hdid.size),fun x hx=>?_,?_,?_,?_,Ae8 hq6 hv6 hw6 (fun x y hxy=>?_) ?_ ?_⟩
 ·rw[hdid.kept x (Ap6 hx (Ap3 hkept3.1 k8.size)) fun hl=>Nat.not_le.2 hx (hL4 x hl)]
  refine(k8.kept x (Ap6 hx hkept3.1) fun hl=>Nat.not_le.2 hx (hlow3 x (.inl hl))).trans (hkept3.2.1 x hx)
 ·exact hdid.tape.trans (k8.tape.trans hkept3.2.2.1)
 ·exact hdid.os.1.trans (k8.os.1.trans hkept3.2.2.2.1)
 ·exact hdid.os.2.trans (k8.os.2.trans hkept3.2.2.2.2)
 ·rcases hg6.2 x y hxy with z |⟨_,z⟩
  ·exact hMS4.low x y z
  ·exact Ap3 hkept3.1 z
 ·rw[Dj];exact Nat.mul_pos hn0 hn0
 ·rw[Dj];exact Nat.mul_pos hn0 hn0
end
section
open Go.ConcN (sumTo)
open Go.RowKit Go.Conc Co Ok Lr Tl Bar
theorem A72 {X:Cx}{B:Lk}:∀(k:Nat) (v v':Value),Dc k v=true->VR X B v v'->v'=v:=by
 have rows:∀(k:Nat) (p p':Array Value),(∀v v',Dc k v=true->VR X B v v'->v'=v)->p.all (Dc k)=true->p.size=p'.size ->(∀(i:Nat) v v',p[i]?=some v->p'[i]?=some v'->VR X B v v')->p'=p:=by
  intro k p p' ih h hs hi;rw[Aq0]at h
  apply Asn
  intro i
  cases h1:p[i]? with
  | none =>
    rw[Array.getElem?_eq_none_iff]at h1 ⊢
    omega
  | some v =>
    have hlt:i<p'.size:=by rw[<-hs];exact(Aoz.1 h1).1
    have h2:=Ap5 hlt;rw[h2,ih v _ (h v (Aq3 h1)) (hi i v _ h1 h2)]
 intro k
 induction k with
 | zero=>intro v v' h hv;cases hv<;>first|rfl |(simp[Dc]at h)
 | succ k ih =>
   intro v v' h hv
   cases hv with
   | agg hs hi=>rw[rows k _ _ ih (by simpa only[Dc]using h) hs hi]
   | tuple hs hi=>rw[rows k _ _ ih (by simpa only[Dc]using h) hs hi]
   | _=>first|rfl |(simp[Dc]at h)
theorem Ae9 {cx cy:Nat}{deep size A4:Int}(hh:∀a:Act,a.tmps.size=71->a.tmps[0]?=some (.complex .f32 cx cy)->a.tmps[1]?=some (.int .i64 deep)->a.tmps[2]?=some (.int .i64 size)->a.tmps[3]?=some (.int .i64 A4)->a.defers=[]->∀w,HW Vp.prog [.code (cut [9,10,12] Bn)] (Rc 0 0 0 0 false [] [] w) a w)
 {c0:Frame} {bs:List Frame} {gs:Array Goroutine} {w:World} {sl:Option (Nat×Nat)} {t:Trace} {q:Nat->Nat}
 (hN:Vp.prog.globals.size<=w.heap.size) (h0:gs[0]?=some (G (Frame.enter Tryz.prog 15 #[.complex .f32 cx cy,.int .i64 deep,.int .i64 size,.int .i64 A4] .normal) (c0 :: bs))) (hL:Leavers Tryz.prog t gs q) (hP:Past (fun _=>False) w.heap.size t) :
 ∃gs' w' sl' t' q' ,Kn Tryz.prog gs w sl t gs' w' sl' t'/\gs'.size=gs.size/\gs'[0]?=some (G (c0.finish (.tuple #[.agg (Bz 0 0 0 0 (.slice none 0 0) (.slice none 0 0)),.bool false])) bs)/\Leavers Tryz.prog t' gs' q'/\Past (fun _=>False) w'.heap.size t'/\w.heap.size<=w'.heap.size /\(∀x,x<w.heap.size->w'.heap[x]?=w.heap[x]?) /\
  w'.tape=w.tape/\w'.os=w.os/\w'.output=w.output:=by
 rw[Tg]at h0;generalize hT:(#[.complex .f32 cx cy,.int .i64 deep,.int .i64 size,.int .i64 A4]:Array Value)++Array.replicate (71-(#[.complex .f32 cx cy,.int .i64 deep,.int .i64 size,.int .i64 A4]:Array Value).size) undef=T at h0;have hTs:T.size=71:=by rw[<-hT];simp
 have hT0:T[0]?=some (.complex .f32 cx cy):=by rw[<-hT];exact Eo rfl _
 have hT1:T[1]?=some (.int .i64 deep):=by rw[<-hT];exact Eo rfl _
 have hT2:T[2]?=some (.int .i64 size):=by rw[<-hT];exact Eo rfl _
 have hT3:T[3]?=some (.int .i64 A4):=by rw[<-hT];exact Eo rfl _
 have hTR:AR (Xs w.heap.size fun _=>False) (fun _ _=>False) T T:=by
  rw[<-hT]
  refine AR.append ⟨rfl,fun i v v' h1 h2=>?_⟩ (AR.replicate _ Gp)
  rw[h1]at h2
  cases h2
  match i with
  | 0=>cases h1;exact .complex _ _ _
  | 1=>cases h1;exact .int _ _
  | 2=>cases h1;exact .int _ _
  | 3=>cases h1;exact .int _ _
  | i+4=>cases h1
 have hhot:Gf (Xs w.heap.size fun _=>False) (fun _ _=>False)=fun _=>False:=by
  funext x;apply propext;exact⟨fun⟨b,h1,_⟩=>h1,fun h=>h.elim⟩
 have hCo:=A2l (base:=c0 :: bs) (cx:=0) (cy:=0) (d:=0) (n:=0) (Ca:=false) (xs:=[]) (ys:=[]) (A3t hN) (a:=⟨T,[]⟩) (s:=[.code (cut [9,10,12] Bn)]) (fr:=bM.at ⟨T,[]⟩ [.code Bn])
  (Ic hTR .nil (.cons (.code (A70 _ _)) .nil) rfl rfl) fun τ k=>⟨_,hh ⟨T,[]⟩ hTs hT0 hT1 hT2 hT3 rfl { V0 w with tape:=τ,drawn:=k }⟩
 rw[hhot,Ig]at hCo;obtain⟨N4,gs4,fr4,cs4,w4,W4,sl4,t4,q4,L4,k1,k2,k3,k4,k5,k6,k7,k8,_,_⟩:=K5 hCo gs w sl t q h0 (C3 _ _ _) (fun x hx=>hx.elim) hL hP
 obtain⟨rfl,hret⟩:=Qw (m:=true) (Mu w.heap.size fun _=>False) (Q:=N9 0 0 0 0 false [] []) R7 k4 (R:=fun _=>False) fun B1 hg _=>Ig
 obtain⟨N5,gs5,d5,sl5,t5,q5,j1,j2,j3,j4,j5,_,d6,sl6,j6⟩:=S9 (P:=Tryz.prog) (sumTo gs4.size q4) gs4 w4 sl4 t4 q4 rfl k3 k6 k7;obtain⟨v',W6,n6,L6,hdid,hst,B6,V6,v6,hg6,hq6,hv6,hw6,rfl⟩:=hret (w4.at d6) (Am k5 d6);obtain⟨gs7,ops,i1,i2,i3,i4,i5⟩:=Pz (sl:=sl6) (w:=w4.at d6) j3 (hst c0 bs) hdid (fun x hx=>hx.elim) j4 j5
 have hrun:Kn Tryz.prog gs w sl t gs7 W6 sl6 (t5++ops):=(Kn.trans ⟨N4,k1⟩ ⟨N5,j1⟩).trans (Kn.head (by rw[j6];exact i1) .refl)
 have hL4:∀x,L4 x->w.heap.size<=x:=fun x hx=>(k8.new x hx).resolve_left id
 unfold N9 at hq6;rw[Ap8 (by simp)]at hq6
 subst hq6;have:=A72 3 _ _ (by simp[Dc,Bz]) hv6
 subst this
 exact⟨gs7,W6,sl6,t5++ops,q5,hrun,by rw[i2,j2,k2],i3,i4,i5,Ap3 k8.size hdid.size,fun x hx=>by
  rw[hdid.kept x (Ap6 hx k8.size) fun hl=>Nat.not_le.2 hx (hL4 x hl)]
  exact k8.kept x hx fun hl=>hl,hdid.tape.trans k8.tape,hdid.os.1.trans k8.os.1,hdid.os.2.trans k8.os.2⟩
end
section
open Go.RowKit Go.Conc Co Ok Lr Tl Bar
theorem Aag {P:Program}{F:St->Prop}(hF:∀x,F x->Wj x){z:St}:∀(n:Nat) (x:St),Bar.Way P F x->runN P n (lone x.fr (x.cs++[wall P]) x.V)=.next (lone z.fr (z.cs++[wall P]) z.V)->Bar.Sub P x z:=by
 intro n
 induction n with
 | zero =>
   intro x _ h;simp only[runN]at h;injection h with h
   injection h with h1 h2 _
   have h2:(#[{ frame:=x.fr,callers:=x.cs++[wall P],status:=.running,dying:=none }]:Array Goroutine)=#[{ frame:=z.fr,callers:=z.cs++[wall P],status:=.running,dying:=none }]:=h2;simp only[Array.mk.injEq,List.cons.injEq,Goroutine.mk.injEq,and_true]at h2;obtain⟨a,b,c⟩:=x;obtain⟨a',b',c'⟩:=z;dsimp only at h1 h2;obtain⟨rfl,h3⟩:=h2;subst h1;have h3:=Ar5 h3;subst h3
   exact .refl _
 | succ n ih =>
   intro x hw h;simp only[runN]at h
   cases hw with
   | fin hx =>
     have hp:=hF x hx;rw[hp.1]at h
     rcases A33 (P:=P) hp with⟨o,w,e⟩ |⟨fr1,w,o,w1,e1,e2⟩
     ·rw[Asd,e]at h
      cases h
     ·rw[Asd,e1]at h;dsimp only at h
      cases n with
      | zero =>
        simp only[runN]at h;injection h with h
        injection h with _ h2 _
        have h2:(#[{ frame:=fr1,callers:=[],status:=.running,dying:=none }]:Array Goroutine)=#[{ frame:=z.fr,callers:=z.cs++[wall P],status:=.running,dying:=none }]:=h2;simp at h2
      | succ n =>
        simp only[runN,e2]at h
        cases h
   | go g hg hw =>
     obtain⟨es,k⟩:=hg x.V.tape x.V.drawn;have k:stepG P true { frame:=x.fr,callers:=x.cs++[wall P],status:=.running,dying:=none } x.V=_:=k;have:step P (lone x.fr (x.cs++[wall P]) x.V)=.next (lone (g x.V.tape x.V.drawn).fr ((g x.V.tape x.V.drawn).cs++[wall P]) (g x.V.tape x.V.drawn).V):=step_lone_go (by rw[k];rfl)
     rw[this]at h
     exact .step x.V.tape x.V.drawn ⟨es,k⟩ (ih _ (hw _ _) h)
theorem A17 {P:Program}{F:St->Prop}(hF:∀x,F x->Wj x){f:FuncId}{args:Array Value}{V:World}{c:Frame}{cs:List Frame}{Q:Value->World->Prop}(hw:Bar.Way P F ⟨Frame.enter P f args .normal,c :: cs,V⟩)(h:Calls P f args V (fun e w=>∃v,e=.returned v/\Q v w)) :
 ∃v V',Q v V'/\Bar.Sub P ⟨Frame.enter P f args .normal,c :: cs,V⟩ ⟨c.finish v,cs,V'⟩:=by
 obtain⟨e,w',fr,⟨v,rfl,hq⟩,hs,hf,hl⟩:=h (c :: cs++[wall P]);have hs:Steps P (lone (Frame.enter P f args .normal) (c :: cs++[wall P]) V) (lone fr (c ::(cs++[wall P])) w'):=hs
 have h1:Steps P (lone fr (c ::(cs++[wall P])) w') (lone (c.finish v) (cs++[wall P]) w'):=⟨1,by
  simp only[runN];rw[step_leave_returned hl]⟩
 obtain⟨n,hn⟩:=Steps.trans hs h1
 exact⟨v,w',hq,Aag hF (z:=⟨c.finish v,cs,w'⟩) n ⟨Frame.enter P f args .normal,c :: cs,V⟩ hw hn⟩
def A2n (cx cy:Nat)(deep size A4:Int):Array Value:=#[.complex .f32 cx cy,.int .i64 deep,.int .i64 size,.int .i64 A4]
def Ah3:Value:=.tuple #[.agg (Bz 0 0 0 0 (.slice none 0 0) (.slice none 0 0)),.bool false]
def Ah9 (cx cy:Nat)(deep size A4:Int):Prop :=
 (∀a:Act,a.tmps.size=71->a.tmps[0]?=some (.complex .f32 cx cy)->a.tmps[1]?=some (.int .i64 deep)->a.tmps[2]?=some (.int .i64 size)->a.tmps[3]?=some (.int .i64 A4)->a.defers=[]->∀w,HW Vp.prog [.code (cut [9,10,12] Bn)] (Rc 0 0 0 0 false [] [] w) a w) /\
 ∀V,Calls Vp.prog 15 (A2n cx cy deep size A4) V fun e V'=>e=.returned Ah3/\Below V.heap.size V V'
def Aha (cx cy:Nat)(deep size A4:Int):Prop :=
 ∃(d n:Nat) (px py:Nat->Nat->Nat) (bx:Nat->Nat->Value) (st:Nat->Nat->Int) (sm:Nat->Nat->Nat) (ex ey:Nat),deep=d/\size=n/\n<=8/\0<n/\L3 cx cy d n A4 px py bx st sm /\
  (∀W,Calls Vp.prog 31 #[.complex .f32 cx cy,.int .i64 d,.int .i64 n] W fun e w'=>e=.returned (.bool true)/\W=w') /\(∀W,Calls Vp.prog 32 #[.complex .f32 cx cy,.int .i64 d,.int .i64 n,.int .i64 n] W fun e w'=>e=.returned (.complex .f32 ex ey)/\W=w') /\
  (FloatKind.f32.format.order ex 1090519040 == some .gt)=false /\(FloatKind.f32.format.order ey 1090519040 == some .gt)=false /\
  ∀V,Calls Vp.prog 15 (A2n cx cy deep size A4) V fun e V'=>∃v,e=.returned v/\Wk cx cy d n (rowsOf n sm n) (rowsOf n st n) V.heap.size v V'/\Below V.heap.size V V'
def A4b:Prop:=∀cx cy deep size A4,Ah9 cx cy deep size A4\/Aha cx cy deep size A4
abbrev tmL:List (Nat×Nat):=[(15,4)]
section
variable {cl gl : List Nat} {Q : String -> Code -> Prop} {F : Nat -> Prop} {L : Nat -> Nat} {lf : ∀ b, L b ≠ 0 -> F b}
theorem Aj3 {cx cy d n gS gM gS' gM':Nat}{B:Lk}{V:World}(hF:∀b,F b->b<V.heap.size)(h1:V.heap.size<=gS)(h2:V.heap.size<=gM)(b1:B gS gS')(b2:B gM gM') :
 VR (Td Vp.prog tmL cl gl Q (fun _=>False) F False L lf) B (.tuple #[.agg (Bz cx cy d n (.slice (some ⟨gS,0,none⟩) (n*n) (n*n)) (.slice (some ⟨gM,0,none⟩) (n*n) (n*n))),.bool true])
  (.tuple #[.agg (Bz cx cy d n (.slice (some ⟨gS',0,none⟩) (n*n) (n*n)) (.slice (some ⟨gM',0,none⟩) (n*n) (n*n))),.bool true]):=by
 have hl:∀g,V.heap.size<=g->L g<=0:=fun g hg=>As8 (At5 fun x=>Aru _ (Ap6 (hF g (lf g x)) hg))
 refine .tuple rfl fun i v v' x x'=>?_
 match i with
 | 0 =>
   cases x;cases x'
   refine .agg rfl fun i v v' x x'=>?_
   match i with
   | 0=>cases x;cases x';exact .complex _ _ _
   | 1=>cases x;cases x';exact .int _ _
   | 2=>cases x;cases x';exact .int _ _
   | 3=>cases x;cases x';exact .slice _ _ ⟨⟨b1,id⟩,⟨rfl,hl _ h1⟩,rfl⟩
   | 4=>cases x;cases x';exact .slice _ _ ⟨⟨b2,id⟩,⟨rfl,hl _ h2⟩,rfl⟩
   | i+5=>cases x
 | 1=>cases x;cases x';exact .bool _
 | i+2=>cases x
theorem Acx (hV:A4b){Fi:St->Prop}(hFi:∀x,Fi x->Wj x)(m0:Nat)(w0:World)(Post:Value->World->Prop) :
 Aau (Td Vp.prog tmL cl gl Q (fun _=>False) F False L lf) Vp.prog Tryz.prog Fi m0 w0 Post:=by
 intro f p p' c cs V B gs w sl t q cs' hT hway hsub hb hkp hw hp hcs h0 hL hP;obtain⟨-,hT⟩:=hT;have hT:(f,p.size)∈tmL:=hT;simp only[Arq,Prod.mk.injEq]at hT;obtain⟨rfl,hs⟩:=hT;obtain⟨cx,cy,deep,size,A4,rfl⟩:=Adj hFi hs hway
 obtain rfl:p'=A2n cx cy deep size A4:=by
  have:=A72 (X:=Td Vp.prog tmL cl gl Q (fun _=>False) F False L lf) (B:=B) 1 (.agg (A2n cx cy deep size A4)) (.agg p') (by simp[Dc,A2n]) (.agg hp.1 hp.2)
  injection this
 obtain⟨c',cs'',rfl,hc,hcs⟩:∃c' cs'',cs'=c' :: cs''/\En (Td Vp.prog tmL cl gl Q (fun _=>False) F False L lf) B c c'/\M8 (Td Vp.prog tmL cl gl Q (fun _=>False) F False L lf) B cs cs'':=by
  cases hcs with
  | cons a b=>exact⟨_,_,rfl,a,b⟩
 have hbot:∀v,Hn (c.finish v) cs=none:=fun v=>(Dl (E4 c v) cs).trans hb
 have hN:Vp.prog.globals.size<=w.heap.size:=hw.nW
 rcases hV cx cy deep size A4 with⟨hh,hv⟩ |⟨d,n,px,py,bx,st,sm,ex,ey,rfl,rfl,hn8,hn0,C,hpl,hpt,hf1,hf2,hv⟩
 ·obtain⟨v,V',⟨rfl,hbl⟩,hsb⟩:=A17 hFi hway (Q:=fun v V'=>v=Ah3/\Below V.heap.size V V') ((hv V).mono fun e V' ⟨h1,h2⟩=>⟨_,h1,rfl,h2⟩)
  obtain⟨gs',w',sl',t',q',r,-,g0,gL,gP,hsz,hkept,htape,hos,hout⟩:=Ae9 hh (sl:=sl) hN h0 hL hP
  have hw':WR (Td Vp.prog tmL cl gl Q (fun _=>False) F False L lf) B { V' with tape:=w'.tape,drawn:=w'.drawn } w' :=
   A8a hw (V':={ V' with tape:=w'.tape,drawn:=w'.drawn }) hbl.size (fun b hb=>hbl.block b hb) hsz hkept rfl rfl (by rw[hos,hw.os];exact hbl.os.symm) (by rw[hout,hw.output];exact hbl.output.symm)
  refine Ends.ran r (hsub _ hsb B w'.tape w'.drawn gs' w' sl' t' q' _ cs'' hw' (hc.finish ?_) hcs (hbot _) ?_ g0 gL gP)
  ·refine .tuple rfl fun i v v' x x'=>?_
   match i with
   | 0 =>
     cases x;cases x'
     refine .agg rfl fun i v v' x x'=>?_
     match i with
     | 0=>cases x;cases x';exact .complex _ _ _
     | 1=>cases x;cases x';exact .int _ _
     | 2=>cases x;cases x';exact .int _ _
     | 3=>cases x;cases x';exact .Lz _ _
     | 4=>cases x;cases x';exact .Lz _ _
     | i+5=>cases x
   | 1=>cases x;cases x';exact .bool _
   | i+2=>cases x
  ·exact⟨hkp.low,Ap3 hkp.size hsz,fun x hx=>(hkept x (Ap6 hx hkp.size)).trans (hkp.old x hx),htape.trans hkp.tape,⟨hos.trans hkp.os.1,hout.trans hkp.os.2⟩⟩
 ·obtain⟨v,V',⟨⟨gS,gM,rfl,l1,l2,l3,c1,c2⟩,hbl⟩,hsb⟩:=A17 hFi hway (Q:=fun v V'=>Wk cx cy d n (rowsOf n sm n) (rowsOf n st n) V.heap.size v V'/\Below V.heap.size V V') (hv V)
  obtain⟨gs',w',sl',t',q',v',r,-,g0,gL,gP,hsz,hkept,htape,hos,hout,⟨gS',gM',rfl,l1',l2',l3',c1',c2'⟩⟩:=Aah C hn8 hn0 hpl hpt hf1 hf2 (sl:=sl) hN h0 hL hP
  have hw':WR (Td Vp.prog tmL cl gl Q (fun _=>False) F False L lf) B { V' with tape:=w'.tape,drawn:=w'.drawn } w' :=
   A8a hw (V':={ V' with tape:=w'.tape,drawn:=w'.drawn }) hbl.size (fun b hb=>hbl.block b hb) hsz hkept rfl rfl (by rw[hos,hw.os];exact hbl.os.symm) (by rw[hout,hw.output];exact hbl.output.symm)
  have hnF:∀g,V.heap.size<=g->¬F g:=fun g hg hf=>Aru _ (Ap6 (hw.Tk g hf) hg)
  have hfl:∀(X:Cx) (x:Nat),Flat X (Dd x):=fun X x B=>.float _ _
  have hil:∀(X:Cx) (x:Int),Flat X (Ax x):=fun X x B=>.int _ _
  have hw1:=Aeg hw' (s:=gS) (s':=gS') (fun y h=>Aru _ (Ap6 (hw.Xl h) l1)) (fun x h=>Aru _ (Ap6 (hw.ltW h) l1')) c1 c1'
   (fun v hv=>by
    rw[Aqd,Aq5]at hv;obtain⟨x,_,rfl⟩:=hv
    exact hfl _ x) id (hnF gS l1) (Ap3 hw.nV l1) (Ap3 hw.nW l1')
  have hw2:=Aeg hw1 (s:=gM) (s':=gM') (fun y h=>h.elim (fun h=>Aru _ (Ap6 (hw.Xl h) l2)) fun h=>l3 h.1.symm) (fun x h=>h.elim (fun h=>Aru _ (Ap6 (hw.ltW h) l2')) fun h=>l3' h.2.symm) c2 c2'
   (fun v hv=>by
    rw[Aqd,Aq5]at hv;obtain⟨x,_,rfl⟩:=hv
    exact hil _ x) id (hnF gM l2) (Ap3 hw.nV l2) (Ap3 hw.nW l2')
  have hle:Le B (fun b b'=>(B b b' \/(b=gS/\b'=gS')) \/(b=gM/\b'=gM')):=fun _ _ h=>.inl (.inl h)
  refine Ends.ran r (hsub _ hsb _ w'.tape w'.drawn gs' w' sl' t' q' _ cs'' hw2 ((hc.mono hle).finish (Aj3 (V:=V) hw.Tk l1 l2 (.inl (.inr ⟨rfl,rfl⟩)) (.inr ⟨rfl,rfl⟩))) (hcs.mono hle) (hbot _) ?_ g0 gL gP)
  refine⟨fun x y h hf=>?_,Ap3 hkp.size hsz,fun x hx=>(hkept x (Ap6 hx hkp.size)).trans (hkp.old x hx),htape.trans hkp.tape,⟨hos.trans hkp.os.1,hout.trans hkp.os.2⟩⟩
  rcases h with(h |⟨_,rfl⟩) |⟨_,rfl⟩
  ·exact hkp.low x y h hf
  ·exact Ap3 hkp.size l1'
  ·exact Ap3 hkp.size l2'
end
end
section
open Go.RowKit Go.Conc Co Ok Lr Tl Bar
theorem Xk {d:Nat}(hd:d<=11):(134217728:Int)=((8*2^d:Nat):Int) *((2^(24-d):Nat):Int):=by
 rw[<-Apx,Apo,<-Apk,show d +(24-d)=24 from by omega]
 rfl
theorem Sd {d:Nat}(hd:d<=11)(x:Int):x *((2^(24-d):Nat):Int)<=134217728↔x <=((8*2^d:Nat):Int):=by
 have hp:(0:Int) <((2^(24-d):Nat):Int):=by have:=Ap9 (24-d);omega
 rw[Xk hd]
 exact⟨fun h=>Int.le_of_mul_le_mul_right h hp,fun h=>Arn h (Asv hp)⟩
theorem J5 {d:Nat}(hd:d<=11){x:Int}(h:-((8*2^d:Nat):Int)<=x):-134217728<=x *((2^(24-d):Nat):Int):=by
 have hp:(0:Int) <((2^(24-d):Nat):Int):=by have:=Ap9 (24-d);omega
 have:=Arn h (Asv hp);rw[Atb,<-Xk hd]at this
 exact this
def fx (c d:Nat)(j:Int):Nat:=Flo.Dh .add .f32 c (Flo.Dh .mul .f32 (floatOfInt .f32 j) (Flo.De d))
theorem Rx {c d:Nat}{A:Int}(hd:d<=11)(hc:Flo.Pt (c % 4294967296) d A)(hA:A.natAbs<=60000)(j:Int)(hj:j.natAbs<=5000) :
 floatBits .mul .f32 (floatOfInt .f32 j) (Flo.De d)=some (Flo.Dh .mul .f32 (floatOfInt .f32 j) (Flo.De d))/\floatBits .add .f32 c (Flo.Dh .mul .f32 (floatOfInt .f32 j) (Flo.De d))=some (fx c d j)/\Flo.Pt (fx c d j) d (A+j):=by
 obtain⟨p,x,e1,e2,h⟩:=Flo.Ad1 hd hc (by omega) j (by omega)
 rw[Flo.Alh]at e2;have h1:Flo.Dh .mul .f32 (floatOfInt .f32 j) (Flo.De d)=p:=by unfold Flo.Dh;rw[e1];rfl
 have h2:fx c d j=x:=by unfold fx;rw[h1];unfold Flo.Dh;rw[e2];rfl
 rw[h1,h2]
 exact⟨e1,e2,h⟩
theorem A7l {x d:Nat}{n:Int}(hd:d<=11)(h:Flo.Pt x d n)(hn:n.natAbs<=8*2^d):Flo.Bd 8 x:=by
 refine⟨by rw[h.iv];exact h,?_⟩
 rw[h.iv,Apt,Apf,Flo.Q0 hd]
 calc n.natAbs*2^(Flo.u32-d)<=8*2^d*2^(Flo.u32-d):=Ap2 _ hn
  _=8 *(2^(Flo.u32-d)*2^d):=by rw[Apo,Apr (2^d)]
def cA (a:Int)(d j:Nat):Int:=(a+j) *((2^(24-d):Nat):Int)
def cIn (a b:Int)(d i j:Nat):Bool:=decide (cA a d j<=134217728/\cA b d i<=134217728)
def cB (a b:Int)(d i j:Nat)(z:Int):Int:=if cIn a b d i j=true then z else 0
def cOk (a b:Int)(d i j:Nat):Bool:=cIn a b d i j && Bl (cB a b d i j (cA a d j)) (cB a b d i j (cA a d j) +((2^(24-d):Nat):Int)) (cB a b d i j (cA b d i)) (cB a b d i j (cA b d i) +((2^(24-d):Nat):Int))
def bxC (a b:Int)(d i j:Nat):Bx:=⟨cA a d j,cA a d j +((2^(24-d):Nat):Int),cA b d i,cA b d i +((2^(24-d):Nat):Int)⟩
theorem Rr (a:Int)(d j:Nat):cA a d j +((2^(24-d):Nat):Int)=(a+j+1) *((2^(24-d):Nat):Int):=by unfold cA;rw[Asa (a+j),Int.one_mul]
theorem Ma {a b:Int}{d:Nat}(hd:d<=11)(ha:a.natAbs<=4*2^d)(hb:b.natAbs<=4*2^d)(i j:Nat) :
 cOk a b d i j=true↔a+j+1 <=((8*2^d:Nat):Int)/\b+i+1 <=((8*2^d:Nat):Int):=by
 have g1:-134217728<=cA a d j:=J5 hd (by omega)
 have g2:-134217728<=cA b d i:=J5 hd (by omega)
 have n1:=Rr a d j;have n2:=Rr b d i;have s1:=Sd hd (a+j+1);have s2:=Sd hd (b+i+1);rw[<-n1]at s1;rw[<-n2]at s2;have hp:(0:Int) <((2^(24-d):Nat):Int):=by have:=Ap9 (24-d);omega
 rw[<-s1,<-s2];unfold cOk cB cIn Bl Gt;generalize cA a d j=A at *;generalize cA b d i=B at *;generalize ((2^(24-d):Nat):Int)=S at *;simp only[Ap7,Apm]
 by_cases h:A<=134217728/\B<=134217728
 ·rw[Apb h,Apb h];omega
 ·rw[Ap8 h,Ap8 h];omega
theorem Z3 {a b:Int}{d:Nat}{i j:Nat}(h:cOk a b d i j=true):cB a b d i j (cA a d j)=cA a d j/\cB a b d i j (cA b d i)=cA b d i /\(bxC a b d i j).ok=true:=by
 unfold cOk at h;rw[Ap7]at h;obtain⟨h1,h2⟩:=h;have e:∀z,cB a b d i j z=z:=fun z=>by unfold cB;rw[Apb h1]
 rw[e,e]at h2
 exact⟨e _,e _,h2⟩
theorem A8s:Flo.D6 Ieee.single 1090519040 (8 *(2^Flo.u32:Nat)):=by
 refine⟨by decide,by unfold Flo.fin;decide,?_⟩
 rw[Flo.Ga];unfold Flo.iv;have h1:Flo.Il Ieee.single 1090519040=false:=by decide
 have h2:Flo.rv Ieee.single (Flo.Af Ieee.single 1090519040)=8*2^149:=by decide +kernel
 rw[h1,h2];simp
theorem A73 {x d:Nat}{n:Int}(hd:d<=11)(h:Flo.Pt x d n):(FloatKind.f32.format.order x 1090519040 == some .gt)=decide (((8*2^d:Nat):Int)<n):=by
 rw[Flo.Ke (k:=.f32) h A8s,Au1,Apm,Apm];have hp:(0:Int) <((2^(Flo.u32-d):Nat):Int):=by have:=Ap9 (Flo.u32-d);omega
 have e:(8:Int) *((2^Flo.u32:Nat):Int)=((8*2^d:Nat):Int) *((2^(Flo.u32-d):Nat):Int):=by
  rw[Flo.Q0 hd,Apx,Apx,Aqf,Aqi ((2^(Flo.u32-d):Nat):Int)]
  rfl
 rw[e]
 exact⟨fun h=>Int.lt_of_mul_lt_mul_right h (Asv hp),fun h=>Int.mul_lt_mul_of_pos_right h hp⟩
theorem A6a (x:Bx)(M:Nat):-1<=stB x M/\stB x M<=1:=by
 unfold stB
 split
 ·omega
 ·split<;>omega
theorem Adn (c d:Nat)(n:Int):smC c d n<4294967296:=by
 unfold smC
 split
 ·omega
 ·exact Flo.A5g
def stT (a b:Int)(d:Nat)(A4:Int)(i j:Nat):Int:=stB (bxC a b d i j) (Be A4).toNat
def smT (cx cy d:Nat)(A4:Int)(i j:Nat):Nat:=smC (fx cx d j) (fx cy d i) A4
section
variable {cx cy d s : Nat} {a b : Int} (A4 : Int) (hd : d <= 10) (hs : s <= 8) (hx : Flo.Pt (cx % 4294967296) d a) (hy : Flo.Pt (cy % 4294967296) d b) (ha : a.natAbs <= 4 * 2 ^ d) (hb : b.natAbs <= 4 * 2 ^ d)
include hd hs hx hy ha hb
theorem Sx:Aap cx cy d s A4 (fun i j=>cOk a b d i j) (fun i j=>cB a b d i j (cA a d j)) (fun i j=>cB a b d i j (cA a d j) +((2^(24-d):Nat):Int)) (fun i j=>cB a b d i j (cA b d i)) (fun i j=>cB a b d i j (cA b d i) +((2^(24-d):Nat):Int))
 (fun _ j=>fx cx d j) (fun i _=>fx cy d i) (stT a b d A4) (smT cx cy d A4):=by
 have hpd:2^d<=1024:=Ap3 (Api (by omega) hd) (show 2^10<=1024 by decide)
 have run:∀(c:Nat) (A:Int) (j:Nat),Flo.Pt (c % 4294967296) d A->A.natAbs<=4*2^d->j<s->_:=fun c A j h hA hj=>Rx (c:=c) (by omega) h (by omega) (j:Int) (by omega)
 have hbd:∀i j,i<s->j<s->cOk a b d i j=true->Flo.Bd 8 (fx cx d j)/\Flo.Bd 8 (fx cy d i):=fun i j hi hj h=>by
  have h:=(Ma (by omega) ha hb i j).1 h
  exact⟨A7l (by omega) (run cx a j hx ha hj).2.2 (by omega),A7l (by omega) (run cy b i hy hb hi).2.2 (by omega)⟩
 refine⟨fun i j hi hj W=>?_,fun i j hi hj ho W=>?_,fun i j hi hj W=>?_,fun i j hi hj ho W=>?_,fun i j=>Adn _ _ _,fun i j=>A6a _ _⟩
 ·obtain⟨e1,e2,hp⟩:=run cx a j hx ha hj;obtain⟨e3,e4,hq⟩:=run cy b i hy hb hi;have hP:=Aoy (fun w=>Tq cx cy d i j (by omega) e1 e3 e2 e4 w)
  have hO:=Aoy (fun w=>A8j (fx cx d j) (fx cy d i) d (a+j) (b+i) (cA a d j) (cA b d i) (by omega) hp hq (by omega) (by omega) rfl rfl (J5 (by omega) (by omega)) (J5 (by omega) (by omega)) w)
  have g1:-134217728<=cA a d j:=J5 (by omega) (by omega)
  have g2:-134217728<=cA b d i:=J5 (by omega) (by omega)
  have hS0:0<2^(24-d):=Ap9 _;have hS:(2^(24-d):Nat)<=2^24:=Api (by omega) (by omega)
  cases hin:cIn a b d i j with
  | true =>
    have hin':cA a d j<=134217728/\cA b d i<=134217728:=by unfold cIn at hin;simpa using hin
    have hb2:∀z,cB a b d i j z=z:=fun z=>by unfold cB;rw[Apb hin]
    have hO2:Hid (∀w,Calls Vp.prog 67 #[.complex .f32 (fx cx d j) (fx cy d i)] w fun e w'=>e=.returned (.tuple #[.agg #[.int .i64 (cA a d j),.int .i64 (cA a d j),.int .i64 (cA b d i),.int .i64 (cA b d i)],.bool true])/\Below w.heap.size w w'):=fun w=>(hO.out w).mono fun e w' ⟨h1,h2⟩=>⟨by rw[h1];unfold ofV;rw[Apb hin'],h2⟩
    have:=A2k cx cy d _ _ i j _ _ _ _ _ _ _ true (Nw d (by omega)) (by omega) (Fv (by omega) (by omega)) (Fv (by omega) (by omega)) hP hO2 W
    simp only[hb2,cOk,hin]
    exact this
  | false =>
    have hin':¬(cA a d j<=134217728/\cA b d i<=134217728):=by unfold cIn at hin;simpa using hin
    have hb2:∀z,cB a b d i j z=0:=fun z=>by unfold cB;rw[Ap8 (by rw[hin];simp)]
    have hO2:Hid (∀w,Calls Vp.prog 67 #[.complex .f32 (fx cx d j) (fx cy d i)] w fun e w'=>e=.returned (.tuple #[.agg #[.int .i64 0,.int .i64 0,.int .i64 0,.int .i64 0],.bool false])/\Below w.heap.size w w'):=fun w=>(hO.out w).mono fun e w' ⟨h1,h2⟩=>⟨by rw[h1];unfold ofV;rw[Ap8 hin'],h2⟩
    have:=A2k cx cy d _ _ i j _ _ _ _ _ _ _ false (Nw d (by omega)) (by omega) (Fv (by omega) (by omega)) (Fv (by omega) (by omega)) hP hO2 W
    simp only[hb2,cOk,hin]
    exact this
 ·obtain⟨e1,e2,e3⟩:=Z3 ho;rw[e1,e2]
  exact Z7 _ _ _ _ A4 e3 W
 ·obtain⟨e1,e2,-⟩:=run cx a j hx ha hj;obtain⟨e3,e4,-⟩:=run cy b i hy hb hi
  exact Tq cx cy d i j (by omega) e1 e3 e2 e4 W
 ·obtain⟨h1,h2⟩:=hbd i j hi hj ho
  exact Vt _ _ A4 h1 h2 W
theorem A8m (hok:∀i j,i<s->j<s->cOk a b d i j=true):L3 cx cy d s A4 (fun _ j=>fx cx d j) (fun i _=>fx cy d i) (fun i j=>.agg #[.int .i64 (cA a d j),.int .i64 (cA a d j +((2^(24-d):Nat):Int)),.int .i64 (cA b d i),.int .i64 (cA b d i +((2^(24-d):Nat):Int))]) (stT a b d A4) (smT cx cy d A4):=by
 have hpd:2^d<=1024:=Ap3 (Api (by omega) hd) (show 2^10<=1024 by decide)
 have run:∀(c:Nat) (A:Int) (j:Nat),Flo.Pt (c % 4294967296) d A->A.natAbs<=4*2^d->j<s->_:=fun c A j h hA hj=>Rx (c:=c) (by omega) h (by omega) (j:Int) (by omega)
 refine⟨fun i j hi hj W=>?_,fun i j hi hj W=>?_,fun i j hi hj W=>?_,fun i j hi hj W=>?_⟩
 ·obtain⟨e1,e2,-⟩:=run cx a j hx ha hj;obtain⟨e3,e4,-⟩:=run cy b i hy hb hi
  exact U4 cx cy d i j (by omega) e1 e3 e2 e4 W
 ·have h:=(Ma (by omega) ha hb i j).1 (hok i j hi hj)
  have n1:=Rr a d j;have n2:=Rr b d i;have s1:=Sd (d:=d) (by omega) (a+j+1)
  have s2:=Sd (d:=d) (by omega) (b+i+1)
  rw[<-n1]at s1;rw[<-n2]at s2
  exact Yz _ _ d (a+j) (b+i) _ _ _ (by omega) (run cx a j hx ha hj).2.2 (run cy b i hy hb hi).2.2 (by omega) (by omega) rfl rfl rfl (J5 (by omega) (by omega)) (s1.2 h.1) (J5 (by omega) (by omega)) (s2.2 h.2) W
 ·obtain⟨-,-,e3⟩:=Z3 (hok i j hi hj)
  exact A27 _ _ _ _ A4 e3 W
 ·have h:=(Ma (by omega) ha hb i j).1 (hok i j hi hj)
  exact Vk _ _ A4 (A7l (by omega) (run cx a j hx ha hj).2.2 (by omega)) (A7l (by omega) (run cy b i hy hb hi).2.2 (by omega)) W
end
theorem A2y {cx cy:Nat}{deep size:Int}(h:Bh cx cy deep size=true):∃(d s:Nat) (a b:Int),deep=d/\size=s/\d<=10/\1<=s/\s<=8/\Flo.Pt (cx % 4294967296) d a/\Flo.Pt (cy % 4294967296) d b/\a.natAbs<=4*2^d/\b.natAbs<=4*2^d:=by
 obtain⟨h1,h2,h3,h4⟩:=Bs h;obtain⟨d,rfl⟩:=Aqg h1;obtain⟨s,rfl⟩:=Aqg (show 0<=size by omega)
 unfold Bh at h;rw[Ap7,Ap7,Aqk,<-Flo.Nz cx,<-Flo.Nz cy]at h;obtain⟨a,hx,ha⟩:=Flo.Jv (Ara cx (by decide)) (by omega) h.1.2
 obtain⟨b,hy,hb⟩:=Flo.Jv (Ara cy (by decide)) (by omega) h.2
 exact⟨d,s,a,b,rfl,rfl,by omega,by omega,by omega,hx,hy,ha,hb⟩
theorem Yw {a b:Int}{d s:Nat}(hd:d<=11)(h1:1<=s)(ha:a.natAbs<=4*2^d)(hb:b.natAbs<=4*2^d) :
 (∀i j,i<s->j<s->cOk a b d i j=true)↔a+s <=((8*2^d:Nat):Int)/\b+s <=((8*2^d:Nat):Int):=by
 constructor
 ·intro h;have:=(Ma hd ha hb (s-1) (s-1)).1 (h _ _ (by omega) (by omega))
  omega
 ·intro h i j hi hj
  exact(Ma hd ha hb i j).2 (by omega)
theorem Aog {cx cy:Nat}{deep size A4:Int}(h:∀W,Calls Vp.prog 31 #[.complex .f32 cx cy,.int .i64 deep,.int .i64 size] W fun e w'=>e=.returned (.bool false)/\W=w')(a:Act)(hs:a.tmps.size=71)(h0:a.tmps[0]?=some (.complex .f32 cx cy))(h1:a.tmps[1]?=some (.int .i64 deep))(h2:a.tmps[2]?=some (.int .i64 size))(h3:a.tmps[3]?=some (.int .i64 A4))(hd:a.defers=[])(w:World) :
 HW Vp.prog [.code (cut [9,10,12] Bn)] (Rc 0 0 0 0 false [] [] w) a w:=by
 obtain⟨t,ds⟩:=a;dsimp only at hs h0 h1 h2 h3 hd;obtain⟨y0,y1,y2,y3,y4,y5,y6,y7,y8,y9,y10,y11,y12,y13,y14,y15,y16,y17,y18,y19,y20,y21,y22,y23,y24,y25,y26,y27,y28,y29,y30,y31,y32,y33,y34,y35,y36,y37,y38,y39,y40,y41,y42,y43,y44,y45,y46,y47,y48,y49,y50,y51,y52,y53,y54,y55,y56,y57,y58,y59,y60,y61,y62,y63,y64,y65,y66,y67,y68,y69,y70,rfl⟩:=Wm t hs
 cases h0;cases h1;cases h2;cases h3;subst hd
 apply A4y (d:=0) (n:=0) (xs:=[]) (ys:=[]) h
theorem Aki {cx cy d n:Nat}{A4:Int}{ex ey:Nat}(h:∀W,Calls Vp.prog 31 #[.complex .f32 cx cy,.int .i64 d,.int .i64 n] W fun e w'=>e=.returned (.bool true)/\W=w')(hp:∀W,Calls Vp.prog 32 #[.complex .f32 cx cy,.int .i64 d,.int .i64 n,.int .i64 n] W fun e w'=>e=.returned (.complex .f32 ex ey)/\W=w')
 (hf:(FloatKind.f32.format.order ex 1090519040 == some .gt || FloatKind.f32.format.order ey 1090519040 == some .gt)=true) (a:Act) (hs:a.tmps.size=71) (h0:a.tmps[0]?=some (.complex .f32 cx cy)) (h1:a.tmps[1]?=some (.int .i64 d)) (h2:a.tmps[2]?=some (.int .i64 n)) (h3:a.tmps[3]?=some (.int .i64 A4)) (hd:a.defers=[]) (w:World) :
 HW Vp.prog [.code (cut [9,10,12] Bn)] (Rc 0 0 0 0 false [] [] w) a w:=by
 obtain⟨t,ds⟩:=a;dsimp only at hs h0 h1 h2 h3 hd;obtain⟨y0,y1,y2,y3,y4,y5,y6,y7,y8,y9,y10,y11,y12,y13,y14,y15,y16,y17,y18,y19,y20,y21,y22,y23,y24,y25,y26,y27,y28,y29,y30,y31,y32,y33,y34,y35,y36,y37,y38,y39,y40,y41,y42,y43,y44,y45,y46,y47,y48,y49,y50,y51,y52,y53,y54,y55,y56,y57,y58,y59,y60,y61,y62,y63,y64,y65,y66,y67,y68,y69,y70,rfl⟩:=Wm t hs
 cases h0;cases h1;cases h2;cases h3;subst hd
 have:=Ahr (A4:=A4) h hp hf y4 y5 y6 y7 y8 y9 y10 y11 y12 y13 y14 y15 y16 y17 y18 y19 y20 y21 y22 y23 y24 y25 y26 y27 y28 y29 y30 y31 y32 y33 y34 y35 y36 y37 y38 y39 y40 y41 y42 y43 y44 y45 y46 y47 y48 y49 y50 y51 y52 y53 y54 y55 y56 y57 y58 y59 y60 y61 y62 y63 y64 y65 y66 y67 y68 y69 y70 w [] []
 exact this
theorem Aow:A4b:=by
 intro cx cy deep size A4;have hpw:=fun W=>Vs cx cy deep size W
 cases hpl:Bh cx cy deep size with
 | false =>
   rw[hpl]at hpw
   exact .inl ⟨Aog hpw,fun V=>Pe cx cy deep size A4 hpl V⟩
 | true =>
   rw[hpl]at hpw;obtain⟨d,s,a,b,rfl,rfl,hd,h1,h8,hx,hy,ha,hb⟩:=A2y hpl;have hpd:2^d<=1024:=Ap3 (Api (by omega) hd) (show 2^10<=1024 by decide)
   have hV:=fun V=>Ni cx cy d s A4 hd h8 hpl (Sx A4 hd h8 hx hy ha hb) V
   obtain⟨e1,e2,hpx⟩:=Rx (c:=cx) (by omega) hx (by omega) (s:Int) (by omega)
   obtain⟨e3,e4,hpy⟩:=Rx (c:=cy) (by omega) hy (by omega) (s:Int) (by omega)
   have hpt:=fun W=>U4 cx cy d s s (by omega) e1 e3 e2 e4 W
   have f1:=A73 (by omega) hpx
   have f2:=A73 (by omega) hpy
   have hall:=Yw (d:=d) (by omega) h1 ha hb
   by_cases hg:a+s <=((8*2^d:Nat):Int)/\b+s <=((8*2^d:Nat):Int)
   ·rw[Apy (by omega)]at f1 f2
    have hok:=hall.2 hg
    refine .inr ⟨d,s,_,_,_,_,_,_,_,rfl,rfl,h8,by omega,A8m A4 hd h8 hx hy ha hb hok,hpw,hpt,f1,f2,fun V=>(hV V).mono ?_⟩
    rintro e V' ⟨hbl,⟨⟨i,j,hi,hj,hno⟩,-⟩ |⟨-,v,rfl,ht⟩⟩
    ·have hno:cOk a b d i j=false:=hno;have:=hok i j hi hj;rw[hno]at this
     cases this
    ·exact⟨v,rfl,ht,hbl⟩
   ·refine .inl ⟨Aki hpw hpt ?_,fun V=>(hV V).mono ?_⟩
    ·rw[f1,f2,Ase,Apm,Apm]
     omega
    ·rintro e V' ⟨hbl,⟨-,rfl⟩ |⟨hok,-⟩⟩
     ·exact⟨rfl,hbl⟩
     ·exact absurd (hall.1 hok) hg
end
section
open Go.RowKit Flo
def Ff (x y:Nat):Nat:=(floatBits .add .f32 x y).getD 0
def Eg (d:Nat)(s:Int):Nat:=(floatBits .mul .f32 (floatOfInt .f32 s) (De (d+1))).getD 0
def Bj (cx cy d:Nat)(s:Int):Nat->Nat×Nat
 | 0=>(cx,cy)
 | 1=>(Ff cx (Eg d s),Ff cy 0)
 | 2=>(Ff cx 0,Ff cy (Eg d s))
 | _=>(Ff cx (Eg d s),Ff cy (Eg d s))
theorem Xu {x d:Nat}{n:Int}(hd:d<=10)(h:Pt x d n):Pt x (d+1) (2*n):=by
 unfold Pt at h ⊢
 have e:(2^(u32-d):Nat)=2^(u32-(d+1))*2:=by
  rw[<-Ark];congr 1;rw[Ga];omega
 have e2:2*n *((2^(u32-(d+1)):Nat):Int)=n *((2^(u32-d):Nat):Int):=by
  rw[e,Apx,Aqi 2 n,Aqf]
  congr 1
  rw[Aqi];rfl
 rw[e2];exact h
theorem A04 (d:Nat):Pt 0 d 0:=by
 unfold Pt;rw[Int.zero_mul]
 exact⟨by decide,by unfold fin;decide,by decide⟩
theorem F9 {d x y:Nat}{a b:Int}(hd:d<=11)(hx:Pt x d a)(hy:Pt y d b)(h:(a+b).natAbs<16777216):floatBits .add .f32 x y=some (Ff x y)/\Pt (Ff x y) d (a+b):=by
 obtain⟨z,h1,h2⟩:=Ae6 hd hx hy h;unfold Ff;rw[h1]
 exact⟨rfl,h2⟩
theorem Zf {d:Nat}{s:Int}(hd:d<=10)(hs:s.natAbs<=65536):floatBits .mul .f32 (floatOfInt .f32 s) (De (d+1))=some (Eg d s)/\Pt (Eg d s) (d+1) s:=by
 obtain⟨p,h1,h2⟩:=A3h (d+1) (by omega) s hs
 unfold Eg;rw[h1]
 exact⟨rfl,h2⟩
theorem U5 {cx cy d:Nat}{A B s:Int}(hd:d<=10)(hx:Pt cx d A)(hy:Pt cy d B)(hA:A.natAbs<=8192)(hB:B.natAbs<=8192)(hs:s.natAbs<=100) :
 floatBits .mul .f32 (floatOfInt .f32 s) (De (d+1))=some (Eg d s)/\floatBits .add .f32 cx (Eg d s)=some (Ff cx (Eg d s))/\floatBits .add .f32 cy (Eg d s)=some (Ff cy (Eg d s))/\floatBits .add .f32 cx 0=some (Ff cx 0)/\floatBits .add .f32 cy 0=some (Ff cy 0) /\
 (∀k,k<4->∃a b:Int,(a=0\/a=s) /\(b=0\/b=s)/\Pt (Bj cx cy d s k).1 (d+1) (2*A+a)/\Pt (Bj cx cy d s k).2 (d+1) (2*B+b)):=by
 have f:=Zf (s:=s) hd (by omega)
 have x2:=Xu hd hx;have y2:=Xu hd hy;have z:=A04 (d+1);have h1:=F9 (by omega) x2 f.2 (by omega)
 have h2:=F9 (by omega) y2 f.2 (by omega)
 have h3:=F9 (by omega) x2 z (by omega)
 have h4:=F9 (by omega) y2 z (by omega)
 refine⟨f.1,h1.1,h2.1,h3.1,h4.1,fun k hk=>?_⟩
 rcases(by omega:k=0\/k=1\/k=2\/k=3)with rfl|rfl|rfl|rfl
 ·exact⟨0,0,.inl rfl,.inl rfl,by rw[Int.add_zero];exact x2,by rw[Int.add_zero];exact y2⟩
 ·exact⟨s,0,.inr rfl,.inl rfl,h1.2,h4.2⟩
 ·exact⟨0,s,.inl rfl,.inr rfl,h3.2,h2.2⟩
 ·exact⟨s,s,.inr rfl,.inr rfl,h1.2,h2.2⟩
def Lw (cx cy d:Nat)(s:Int):Array Value:=#[.complex .f32 cx cy,.complex .f32 (Ff cx (Eg d s)) (Ff cy 0),.complex .f32 (Ff cx 0) (Ff cy (Eg d s)),.complex .f32 (Ff cx (Eg d s)) (Ff cy (Eg d s))]
theorem A9m (cx cy d:Nat)(s:Int)(k:Nat)(h:k<4):(Lw cx cy d s)[k]?=some (.complex .f32 (Bj cx cy d s k).1 (Bj cx cy d s k).2):=by
 rcases(by omega:k=0\/k=1\/k=2\/k=3)with rfl|rfl|rfl|rfl<;>rfl
theorem Zr (cx cy d:Nat)(A B s:Int)(hd:d<=10)(hx:Pt cx d A)(hy:Pt cy d B)(hA:A.natAbs<=8192)(hB:B.natAbs<=8192)(hs:s.natAbs<=100)(ua ub:Option Addr)(un uc vn vc:Nat)(w:World) :
 Calls Vp.prog 51 #[.agg #[.complex .f32 cx cy,.int .i64 d,.int .i64 s,.slice ua un uc,.slice ub vn vc]] w fun e w'=>∃b,e=.returned (.slice (some ⟨b,0,none⟩) 4 4)/\w.heap.size<=b/\A9 w b (Lw cx cy d s) 23 w':=by
 obtain⟨h1,h2,h3,h4,h5,-⟩:=U5 hd hx hy hA hB hs;have R:=A9.new w #[.complex .f32 cx cy,.int .i64 d,.int .i64 s,.slice ua un uc,.slice ub vn vc] 35;have g0:=fun w=>Aqa (P:=Vp.prog) w .mul 74 .f32 _ _ _ h1
 have g1:=fun w=>At3 (P:=Vp.prog) w .add (.inl rfl) 23 .f32 cx cy (Eg d s) 0 _ _ (by unfold cSumBits;rw[h2,h5];rfl)
 have g2:=fun w=>At3 (P:=Vp.prog) w .add (.inl rfl) 23 .f32 cx cy 0 (Eg d s) _ _ (by unfold cSumBits;rw[h4,h3];rfl)
 have g3:=fun w=>At3 (P:=Vp.prog) w .add (.inl rfl) 23 .f32 cx cy (Eg d s) (Eg d s) _ _ (by unfold cSumBits;rw[h2,h3];rfl)
 have HS:Hid (∀w,Calls Vp.prog 74 #[.int .i64 ((d:Int)+1)] w fun e w'=>e=.returned (.float .f32 (De (d+1)))/\w=w'):=fun w=>Xi (d+1) (by omega) w
 unfold Lw;clear h1 h2 h3 h4 h5 hx hy hA hB;generalize Ff cx (Eg d s)=x1 at *;generalize Ff cy (Eg d s)=y1 at *;generalize Ff cx 0=x0 at *;generalize Ff cy 0=y0 at *;generalize Eg d s=f at *;generalize De (d+1)=sd at *;obtain⟨r0,r1,r2,r3,r4⟩:=R.Ad;have e1:IntKind.i64.wrap ((d:Int)+1)=(d:Int)+1:=Aq4 _ (by omega)
 go_enter Vp.func51,Tryz.ntmps51
 go_upto_region 1 with fail
 go_quiet ((go_at_call 74;exact Ad5 (HS.out _)))
 clear e1;have R2:=R.step ((Au.refl _).drewN nq |>.below _)
 obtain⟨t0,t1,t2,t3,t4⟩:=R2.Ad;have HB:=Aoy R2.old;have hsz:=R2.old.size;clear R R2;have X:=(A9.new ((w.alloc (.cells #[.complex .f32 cx cy,.int .i64 d,.int .i64 s,.slice ua un uc,.slice ub vn vc] 35)).drewN nq) #[.complex .f32 cx cy,.complex .f32 x1 y0,.complex .f32 x0 y1,.complex .f32 x1 y1] 23).up HB.out;rw[show((w.alloc (.cells #[.complex .f32 cx cy,.int .i64 d,.int .i64 s,.slice ua un uc,.slice ub vn vc] 35)).drewN nq).heap.size=w.heap.size+1 by simp]at X
 have HX:=Aoy X;clear X
 go_wp2
 go_ret
 exact⟨w.heap.size+1,rfl,by omega,HX.out⟩
end
section
open Go.RowKit Flo
attribute [local go_sem ↓] Go.wp_at_zero Go.wp_at_succ
attribute [local go_sem] A7 A5
structure Aj where
 cx:Nat
 cy:Nat
 deep:Int
 size:Int
 gs:Nat
 cs:Nat
 gm:Nat
 cm:Nat
 xs:List Nat
 ys:List Int
def Aj.n (t:Aj):Nat:=t.size.toNat*t.size.toNat
def Aj.cells (t:Aj):List Value:=[.complex .f32 t.cx t.cy,.int .i64 t.deep,.int .i64 t.size,.slice (some ⟨t.gs,0,none⟩) t.n t.cs,.slice (some ⟨t.gm,0,none⟩) t.n t.cm]
structure Cn (B:Nat)(t:Aj)(W:World):Prop where
 made:Made B t.n t.xs t.ys (.slice (some ⟨t.gs,0,none⟩) t.n t.cs) (.slice (some ⟨t.gm,0,none⟩) t.n t.cm) W
 pl:Bh t.cx t.cy t.deep t.size=true
 bx:t.cx<4294967296
 by1:t.cy<4294967296
 ks:t.n<=t.cs
 km:t.n<=t.cm
theorem Cn.step {B:Nat}{t:Aj}{W W':World}(h:Cn B t W)(k:Below W.heap.size W W'):Cn B t W':=⟨h.made.step k,h.pl,h.bx,h.by1,h.ks,h.km⟩
theorem Cn.mono {B B':Nat}{t:Aj}{W:World}(h:Cn B t W)(hB:B'<=B):Cn B' t W:=⟨h.made.mono hB,h.pl,h.bx,h.by1,h.ks,h.km⟩
theorem Ac6:(Vp.prog.info? 35).map (fun i=>(i.zero,i.size,i.bytes))=some (some (.agg #[.complex .f32 0 0,.int .i64 0,.int .i64 0,.slice none 0 0,.slice none 0 0]),5,72):=by kernel_rfl
theorem Cn.grown {B B':Nat}{t:Aj}{W W':World}{v:Value}{n:Nat}{cs:List Value}(h:Cn B t W)(ho:W.ownsRow B' 35 5 v n cs)(hg:W.grownBy W' v.ownBlock):Cn B t W' :=
 ⟨⟨h.made.S.kept hg (Cs h.made.S ho (by decide)),h.made.M.kept hg (Cs h.made.M ho (by decide)),h.made.lx,h.made.ly,h.made.hx,h.made.hy⟩,h.pl,h.bx,h.by1,h.ks,h.km⟩
def Ac (L:List Aj):List Value:=L.flatMap Aj.cells
theorem Qf (L:List Aj)(t:Aj):Ac (L++[t])=Ac L++t.cells:=by unfold Ac;rw[Auv,List.flatMap_singleton]
structure Ce (B:Nat)(L:List Aj)(v:Value)(W:World):Prop where
 row:W.ownsRow B 35 5 v L.length (Ac L)
 own:∀t,t∈L->Cn B t W
theorem Ce.step {B:Nat}{L:List Aj}{v:Value}{W W':World}(h:Ce B L v W)(k:Below W.heap.size W W'):Ce B L v W':=⟨Ab h.row k,fun t ht=>(h.own t ht).step k⟩
theorem Made.Oh {B n:Nat}{xs:List Nat}{ys:List Int}{smv mkv:Value}{W:World}(h:Made B n xs ys smv mkv W){w0:World}{b:Nat}{C:Array Value}(hb:A9 w0 b C 35 W)(j:Nat)(u:Value):Made B n xs ys smv mkv (W.setCell ⟨b,j,none⟩ u):=h.set hb.blk j u
theorem Cn.Oh {B:Nat}{t:Aj}{W:World}(h:Cn B t W){w0:World}{b:Nat}{C:Array Value}(hb:A9 w0 b C 35 W)(j:Nat)(u:Value):Cn B t (W.setCell ⟨b,j,none⟩ u):=⟨h.made.Oh hb j u,h.pl,h.bx,h.by1,h.ks,h.km⟩
theorem Cn.Aof {B:Nat}{t:Aj}{W w0:World}(h:Cn B t W){b:Nat}{v0 v1 v2 v3 v4:Value}(hb:A9 w0 b #[v0,v1,v2,v3,v4] 35 W)(hw:w0.heap.size<=b)(u0 u1 u2 u3 u4:Value) :
 Cn B t (((((W.setCell ⟨b,0,none⟩ u0).setCell ⟨b,1,none⟩ u1).setCell ⟨b,2,none⟩ u2).setCell ⟨b,3,none⟩ u3).setCell ⟨b,4,none⟩ u4):=by
 have b1:=hb.set hw 0 u0;have b2:=b1.set hw 1 u1;have b3:=b2.set hw 2 u2;have b4:=b3.set hw 3 u3
 exact((((h.Oh hb 0 u0).Oh b1 1 u1).Oh b2 2 u2).Oh b3 3 u3).Oh b4 4 u4
theorem G3 {w:World}{base base':Nat}{e:TypeId}{size:Nat}{v:Value}{n:Nat}{xs:List Value}(h:w.ownsRow base e size v n xs)(hB:base'<=base):w.ownsRow base' e size v n xs:=by
 obtain⟨s1,s2⟩:=h
 refine⟨s1,?_⟩
 rcases s2 with h |⟨g,cap,cur,h1,h2,r⟩
 ·exact .inl h
 ·exact .inr ⟨g,cap,cur,h1,Ap3 hB h2,r⟩
theorem Ce.mono {B B':Nat}{L:List Aj}{v:Value}{W:World}(h:Ce B L v W)(hB:B'<=B):Ce B' L v W:=⟨G3 h.row hB,fun t ht=>(h.own t ht).mono hB⟩
theorem Cn.lens {B:Nat}{t:Aj}{W:World}(h:Cn B t W):t.xs.length=t.n/\t.ys.length=t.n:=⟨h.made.lx,h.made.ly⟩
end
section
open Go.RowKit Flo
structure MkT (cx cy d s:Nat)(a b:Int):Prop where
 hx:cx<4294967296
 hy:cy<4294967296
 pl:Bh cx cy d s=true
 d10:d<=10
 s1:1<=s
 s8:s<=8
 px:Pt cx d a
 py:Pt cy d b
 ha:a.natAbs<=4*2^d
 hb:b.natAbs<=4*2^d
 ga:a+s <=((8*2^d:Nat):Int)
 gb:b+s <=((8*2^d:Nat):Int)
def Wi (cx cy:Nat)(deep size:Int):Prop:=∃(d s:Nat) (a b:Int),deep=d/\size=s/\MkT cx cy d s a b
theorem G4 {x d:Nat}{a b:Int}(h:Pt x d a)(g:Pt x d b):a=b:=by
 have e:=h.iv.symm.trans g.iv;have hp:((2^(u32-d):Nat):Int)≠0:=by have:=Ap9 (u32-d);omega
 exact Int.eq_of_mul_eq_mul_right hp e
def Dq (A4:Int)(t:Aj):Prop:=∃(d s:Nat) (a b:Int),t.deep=d/\t.size=s/\MkT t.cx t.cy d s a b/\t.xs=rowsOf s (smT t.cx t.cy d A4) s/\t.ys=rowsOf s (stT a b d A4) s
theorem Dq.same {A4:Int}{t u:Aj}(h:Dq A4 t)(g:Dq A4 u)(ex:t.cx=u.cx)(ey:t.cy=u.cy)(ed:t.deep=u.deep)(es:t.size=u.size):t.xs=u.xs/\t.ys=u.ys:=by
 obtain⟨d,s,a,b,h1,h2,h3,h4,h5⟩:=h;obtain⟨d',s',a',b',g1,g2,g3,g4,g5⟩:=g;obtain rfl:d=d':=by omega
 obtain rfl:s=s':=by omega
 have hx:=h3.px;have hy:=h3.py;rw[ex]at hx;rw[ey]at hy;obtain rfl:=G4 hx g3.px;obtain rfl:=G4 hy g3.py;rw[h4,h5,g4,g5,ex,ey]
 exact⟨rfl,rfl⟩
def Sk (w:World)(cx cy:Nat)(deep size A4:Int)(ok:Bool)(v:Value)(w':World):Prop :=
 (ok=false->¬Wi cx cy deep size/\v=.agg #[.complex .f32 0 0,.int .i64 0,.int .i64 0,.slice none 0 0,.slice none 0 0]) /\(ok=true->∃t:Aj,t.cx=cx/\t.cy=cy/\t.deep=deep/\t.size=size/\v=.agg t.cells.toArray/\Cn w.heap.size t w'/\Dq A4 t)
def A48 (w:World)(cx cy:Nat)(deep size A4:Int)(e:Ending)(w':World):Prop :=
 (∃(x y:Nat) (d s:Int) (a1:Option Addr) (n1 c1:Nat) (a2:Option Addr) (n2 c2:Nat) (ok:Bool),e=.returned (.tuple #[.agg #[.complex .f32 x y,.int .i64 d,.int .i64 s,.slice a1 n1 c1,.slice a2 n2 c2],.bool ok])/\Sk w cx cy deep size A4 ok (.agg #[.complex .f32 x y,.int .i64 d,.int .i64 s,.slice a1 n1 c1,.slice a2 n2 c2]) w')/\Below w.heap.size w w'
theorem Xm {cx cy:Nat}{deep size:Int}(h:Wi cx cy deep size):Bh cx cy deep size=true:=by
 obtain⟨d,s,a,b,rfl,rfl,h⟩:=h
 exact h.pl
theorem Zv {w w':World}{cx cy:Nat}{deep size A4:Int}(h:¬Wi cx cy deep size)(hb:Below w.heap.size w w'):A48 w cx cy deep size A4 (.returned V9) w' :=
 ⟨⟨0,0,0,0,none,0,0,none,0,0,false,rfl,fun _=>⟨h,rfl⟩,fun h=>by cases h⟩,hb⟩
theorem A7i {w w':World}{cx cy d s:Nat}{a b A4:Int}(h:MkT cx cy d s a b){smv mkv:Value}(hM:Made w.heap.size (s*s) (rowsOf s (smT cx cy d A4) s) (rowsOf s (stT a b d A4) s) smv mkv w')(hb:Below w.heap.size w w') :
 A48 w cx cy d s A4 (.returned (.tuple #[.agg #[.complex .f32 cx cy,.int .i64 d,.int .i64 s,smv,mkv],.bool true])) w':=by
 have hn:0<s*s:=Nat.mul_pos h.s1 h.s1;obtain⟨gs,cs,rfl,-,hcs⟩:=ownsRow_form hM.S hn;obtain⟨gm,cm,rfl,-,hcm⟩:=ownsRow_form hM.M hn
 refine⟨⟨cx,cy,d,s,_,_,cs,_,_,cm,true,rfl,(fun h=>by cases h),fun _=>⟨⟨cx,cy,d,s,gs,cs,gm,cm,rowsOf s (smT cx cy d A4) s,rowsOf s (stT a b d A4) s⟩,rfl,rfl,rfl,rfl,?_,⟨?_,h.pl,h.hx,h.hy,?_,?_⟩,d,s,a,b,rfl,rfl,h,rfl,rfl⟩⟩,hb⟩
 ·simp[Aj.cells,Aj.n]
 ·simpa [Aj.n]using hM
 ·simpa [Aj.n]using hcs
 ·simpa [Aj.n]using hcm
def Agt (f:Nat):Prop:=∀(cx cy:Nat) (deep size A4:Int),cx<4294967296->cy<4294967296->∀w,Calls Vp.prog f #[.complex .f32 cx cy,.int .i64 deep,.int .i64 size,.int .i64 A4] w (A48 w cx cy deep size A4)
theorem A30 {cx cy:Nat}{deep size:Int}(hx:cx<4294967296)(hy:cy<4294967296)(h:Bh cx cy deep size=true):∃(d s:Nat) (a b:Int),deep=d/\size=s/\d<=10/\1<=s/\s<=8/\Pt cx d a/\Pt cy d b/\a.natAbs<=4*2^d/\b.natAbs<=4*2^d:=by
 obtain⟨d,s,a,b,h1,h2,h3,h4,h5,h6,h7,h8,h9⟩:=A2y h;rw[As4 hx]at h6;rw[As4 hy]at h7
 exact⟨d,s,a,b,h1,h2,h3,h4,h5,h6,h7,h8,h9⟩
theorem A9r {B n:Nat}{xs:List Nat}{ys:List Int}{gs gm cap:Nat}{W:World}(hS:B<=gs)(hM:B<=gm)(hs:W.heap[gs]?=some (.cells (xs.map Dd).toArray 74 (0,0)))(hm:W.heap[gm]?=some (.cells (ys.map Ax).toArray 3 (0,0)))
 (lx:xs.length=n) (ly:ys.length=n) (hn:n=cap) (hc:cap<=64) (hx:∀x,x∈xs->x<4294967296) (hy:∀y,y∈ys->-1<=y/\y<=1):Made B n xs ys (.slice (some ⟨gs,0,none⟩) cap cap) (.slice (some ⟨gm,0,none⟩) cap cap) W:=by
 subst hn
 refine⟨⟨by simp[lx],.inr ⟨gs,n,_,rfl,hS,hs,Ap0 _,by unfold maxLen;omega,by simp[lx],?_⟩⟩,⟨by simp[ly],.inr ⟨gm,n,_,rfl,hM,hm,Ap0 _,by unfold maxLen;omega,by simp[ly],?_⟩⟩,lx,ly,hx,hy⟩
 ·exact Ar3 (by simp[lx])
 ·exact Ar3 (by simp[ly])
theorem Nv {α:Type}{s:Nat}{f:Nat->Nat->α}{n:Nat}{x:α}(h:x∈rowsOf s f n):∃i j,x=f i j:=by
 unfold rowsOf at h;rw[List.mem_flatMap]at h;obtain⟨i,_,h⟩:=h;rw[Aq5]at h;obtain⟨j,_,h⟩:=h
 exact⟨i,j,h.symm⟩
theorem Y9:Agt 18:=by
 intro cx cy deep size A4 hx hy w
 cases hpl:Bh cx cy deep size with
 | false =>
   refine(A3z cx cy deep size A4 hpl w).mono ?_
   rintro e w' ⟨rfl,hb⟩
   exact Zv (fun h=>by rw[Xm h]at hpl;cases hpl) hb
 | true =>
   obtain⟨d,s,a,b,rfl,rfl,hd,h1,h8,px,py,ha,hb⟩:=A30 hx hy hpl
   refine(A0o cx cy d s A4 hd h8 hpl (Sx A4 hd h8 (by rw[As4 hx];exact px) (by rw[As4 hy];exact py) ha hb) w).mono ?_
   have hall:=Yw (d:=d) (by omega) h1 ha hb
   rintro e w' ⟨hbl,⟨⟨i,j,hi,hj,hno⟩,rfl⟩ |⟨hok,smv,mkv,rfl,hM⟩⟩
   ·refine Zv ?_ hbl
    rintro⟨d',s',a',b',e1,e2,h⟩;obtain rfl:d=d':=by omega
    obtain rfl:s=s':=by omega
    obtain rfl:=G4 px h.px;obtain rfl:=G4 py h.py;have:=hall.2 ⟨h.ga,h.gb⟩ i j hi hj;have hno:cOk a b d i j=false:=hno;rw[hno]at this
    cases this
   ·have hg:=hall.1 hok
    exact A7i ⟨hx,hy,hpl,hd,h1,h8,px,py,ha,hb,hg.1,hg.2⟩ hM hbl
theorem Xa:Agt 15:=by
 intro cx cy deep size A4 hx hy w
 cases hpl:Bh cx cy deep size with
 | false =>
   refine(Pe cx cy deep size A4 hpl w).mono ?_
   rintro e w' ⟨rfl,hb⟩
   exact Zv (fun h=>by rw[Xm h]at hpl;cases hpl) hb
 | true =>
   obtain⟨d,s,a,b,rfl,rfl,hd,h1,h8,px,py,ha,hb⟩:=A30 hx hy hpl
   refine(Ni cx cy d s A4 hd h8 hpl (Sx A4 hd h8 (by rw[As4 hx];exact px) (by rw[As4 hy];exact py) ha hb) w).mono ?_
   have hall:=Yw (d:=d) (by omega) h1 ha hb
   rintro e w' ⟨hbl,⟨⟨i,j,hi,hj,hno⟩,rfl⟩ |⟨hok,v,rfl,⟨gS,gM,rfl,l1,l2,l3,c1,c2⟩⟩⟩
   ·refine Zv ?_ hbl
    rintro⟨d',s',a',b',e1,e2,h⟩;obtain rfl:d=d':=by omega
    obtain rfl:s=s':=by omega
    obtain rfl:=G4 px h.px;obtain rfl:=G4 py h.py;have:=hall.2 ⟨h.ga,h.gb⟩ i j hi hj;have hno:cOk a b d i j=false:=hno;rw[hno]at this
    cases this
   ·have hg:=hall.1 hok;have hss:s*s<=64:=Aqh h8 h8;have hM:=A9r l1 l2 c1 c2 (Dj s (smT cx cy d A4) s) (Dj s (stT a b d A4) s) rfl hss (fun x h=>by obtain⟨i,j,rfl⟩:=Nv h;exact Adn _ _ _) (fun y h=>by obtain⟨i,j,rfl⟩:=Nv h;exact A6a _ _)
    exact A7i ⟨hx,hy,hpl,hd,h1,h8,px,py,ha,hb,hg.1,hg.2⟩ hM hbl
theorem Dq.n {A4:Int}{t:Aj}(h:Dq A4 t):∃d s:Nat,t.deep=d/\t.size=s/\t.n=s*s/\1<=s/\s<=8/\d<=10:=by
 obtain⟨d,s,a,b,h1,h2,h3,-,-⟩:=h
 exact⟨d,s,h1,h2,by unfold Aj.n;rw[h2];simp,h3.s1,h3.s8,h3.d10⟩
theorem Q2 {α:Type}(n:Nat)(f:Nat->Nat->α):∀m i j,i<m->j<n ->(rowsOf n f m)[i*n+j]?=some (f i j)
 | 0,i,j,hi,_=>by omega
 | m+1,i,j,hi,hj=>by
   rw[Ha];have hl:=Dj n f m
   by_cases h:i<m
   ·have h1:i*n+j<m*n:=by
     have:(i+1)*n<=m*n:=Ap2 n h;rw[Ar1,Nat.one_mul]at this
     omega
    rw[Ar4 (by omega)]
    exact Q2 n f m i j h hj
   ·obtain rfl:i=m:=by omega
    rw[Are (by omega),hl,Nat.add_sub_cancel_left,Apv,Atz hj]
    rfl
theorem A3a (n:Nat)(f:Nat->Nat->Int){i j:Nat}(hi:i<n)(hj:j<n):(rowsOf n f n).getD (i*n+j) 0=f i j:=by
 rw[Asz,Q2 n f n i j hi hj]
 rfl
theorem A5m (n:Nat)(f:Nat->Nat->Int){c:Nat}(hc:c<n*n):(rowsOf n f n)[c]?=some (f (c / n) (c % n)):=by
 have hn:0<n:=by
  rcases Aqq n with h|h
  ·subst h;omega
  ·exact h
 have e:c=c / n*n+c % n:=by rw[Apr];exact(Asq c n).symm
 have:=Q2 n f n (c / n) (c % n) ((Atp hn).2 hc) (Ara _ hn);rw[<-e]at this
 exact this
end
section
open Go.RowKit Flo
attribute [local go_sem ↓] Go.wp_at_zero Go.wp_at_succ
attribute [local go_sem] A7 A5
def Ah4 (wr:World)(px py:Nat)(d s A4:Int)(pb x y:Nat)(dd ss:Int)(a1:Option Addr)(n1 c1:Nat)(a2:Option Addr)(n2 c2:Nat)(ok:Bool)(wx:World):Prop :=
 Below wr.heap.size wr wx/\wr.heap.size<=pb/\A9 wr pb #[.complex .f32 x y,.int .i64 dd,.int .i64 ss,.slice a1 n1 c1,.slice a2 n2 c2] 35 wx /\
  (ok=true->∃t:Aj,t.cx=px/\t.cy=py/\t.deep=d/\t.size=s /\(.agg #[.complex .f32 x y,.int .i64 dd,.int .i64 ss,.slice a1 n1 c1,.slice a2 n2 c2]:Value)=.agg t.cells.toArray/\Cn wr.heap.size t wx/\Dq A4 t) /\(ok=false->¬Wi px py d s)
theorem Aji {wr w5:World}{px py:Nat}{d s A4:Int}{x y:Nat}{dd ss:Int}{a1:Option Addr}{n1 c1:Nat}{a2:Option Addr}{n2 c2:Nat}{ok:Bool}(hM:Sk wr.drew px py d s A4 ok (.agg #[.complex .f32 x y,.int .i64 dd,.int .i64 ss,.slice a1 n1 c1,.slice a2 n2 c2]) w5)(hb:Below wr.drew.heap.size wr.drew w5) :
 Ah4 wr px py d s A4 w5.heap.size x y dd ss a1 n1 c1 a2 n2 c2 ok (w5.alloc (.cells #[.complex .f32 x y,.int .i64 dd,.int .i64 ss,.slice a1 n1 c1,.slice a2 n2 c2] 35)):=by
 have h0:Below wr.heap.size wr wr.drew:=(Au.refl _).drew.below _;have h1:Below wr.heap.size wr w5:=h0.trans hb
 refine⟨h1.alloc h1.size _,h1.size,(A9.new w5 _ _).up h1,fun hok=>?_,fun hok=>(hM.1 hok).1⟩
 obtain⟨t,e1,e2,e3,e4,e5,ht,hg⟩:=hM.2 hok
 exact⟨t,e1,e2,e3,e4,e5,ht.step ((Aph _ _).alloc (Ap0 _) _),hg⟩
theorem Ajj {wr w5:World}{px py:Nat}{d s A4:Int}{x y:Nat}{dd ss:Int}{a1:Option Addr}{n1 c1:Nat}{a2:Option Addr}{n2 c2:Nat}{ok:Bool}
 (hM:Sk ((wr.alloc (.cells #[.complex .f32 0 0,.int .i64 0,.int .i64 0,.slice none 0 0,.slice none 0 0] 35)).drew) px py d s A4 ok (.agg #[.complex .f32 x y,.int .i64 dd,.int .i64 ss,.slice a1 n1 c1,.slice a2 n2 c2]) w5)
 (hb:Below ((wr.alloc (.cells #[.complex .f32 0 0,.int .i64 0,.int .i64 0,.slice none 0 0,.slice none 0 0] 35)).drew).heap.size ((wr.alloc (.cells #[.complex .f32 0 0,.int .i64 0,.int .i64 0,.slice none 0 0,.slice none 0 0] 35)).drew) w5) :
 Ah4 wr px py d s A4 wr.heap.size x y dd ss a1 n1 c1 a2 n2 c2 ok (((((w5.setCell ⟨wr.heap.size,0,none⟩ (.complex .f32 x y)).setCell ⟨wr.heap.size,1,none⟩ (.int .i64 dd)).setCell ⟨wr.heap.size,2,none⟩ (.int .i64 ss)).setCell ⟨wr.heap.size,3,none⟩ (.slice a1 n1 c1)).setCell ⟨wr.heap.size,4,none⟩ (.slice a2 n2 c2)):=by
 have X:A9 wr wr.heap.size #[.complex .f32 0 0,.int .i64 0,.int .i64 0,.slice none 0 0,.slice none 0 0] 35 w5:=((A9.new wr _ _).step ((Au.refl _).drew.below _)).step hb;have Y:=X.Ly (Ap0 _) (.complex .f32 x y) (.int .i64 dd) (.int .i64 ss) (.slice a1 n1 c1) (.slice a2 n2 c2)
 refine⟨Y.old,Ap0 _,Y,fun hok=>?_,fun hok=>(hM.1 hok).1⟩
 obtain⟨t,e1,e2,e3,e4,e5,ht,hg⟩:=hM.2 hok
 exact⟨t,e1,e2,e3,e4,e5,(ht.mono (B':=wr.heap.size) (by simp)).Aof X (Ap0 _) _ _ _ _ _,hg⟩
def Lc (w:World)(cx cy d:Nat)(s A4:Int)(e:Ending)(w':World):Prop :=
 ((∃a0 c0,e=.returned (.tuple #[.slice a0 0 c0,.bool false])/\∃k,k<4/\¬Wi (Bj cx cy d s k).1 (Bj cx cy d s k).2 ((d:Int)+1) s) \/(∃L v,e=.returned (.tuple #[v,.bool true])/\Ce w.heap.size L v w'/\L.length=4/\∀k t,L[k]?=some t->t.cx=(Bj cx cy d s k).1/\t.cy=(Bj cx cy d s k).2/\t.deep=(d:Int)+1/\t.size=s/\Dq A4 t))/\Below w.heap.size w w'
theorem Vu (cx cy d:Nat)(s A4:Int)(hx:cx<4294967296)(hy:cy<4294967296)(hp:Bh cx cy d s=true)(a a':Option Addr)(n c c':Nat)(ys:List Int)(hl:ys.length<=1048576)(hwell:Ck s n ys=true)(w:World)(hs:Sl w a' (ys.map Ax)) :
 Calls Vp.prog 21 #[.agg #[.complex .f32 cx cy,.int .i64 d,.int .i64 s,.slice a n c,.slice a' ys.length c'],.int .i64 A4] w (Lc w cx cy d s A4):=by
 obtain⟨d',A,B,hd',hd,hA,hB,-,-,ha,hb⟩:=Xr hx hy hp;obtain rfl:d=d':=by omega
 obtain⟨h1,h2,h3,h4⟩:=Bs hp;have HWB:=Aoy hwell;clear hwell;have R:=A9.new w #[.complex .f32 cx cy,.int .i64 d,.int .i64 s,.slice a n c,.slice a' ys.length c'] 35;have HW:=Aoy (fun W (hW:Below w.heap.size w W)=>Qy cx cy d s hx hy hp a a' n c c' ys hl W (hs.step hW))
 have HC:=Aoy (fun W=>Zr cx cy d A B s hd hA hB (by omega) (by omega) (by omega) a a' n c ys.length c' W)
 have HQ:=(U5 (s:=s) hd hA hB (by omega) (by omega) (by omega)).2.2.2.2.2
 have HQ2:Hid (∀k,k<4 ->(Bj cx cy d s k).1<4294967296 /\(Bj cx cy d s k).2<4294967296):=fun k hk=>by
  obtain⟨u,v,-,-,p1,p2⟩:=HQ k hk
  exact⟨A7m p1,A7m p2⟩
 clear HQ hs hp hA hB hd';replace R:=R.alloc (.cells #[] 35);have HR:=Aoy R;obtain⟨r0,r1,r2,r3,r4⟩:=R.Ad;have hwl:=R.lt;clear R
 go_enter Vp.func21,Tryz.ntmps21
 go_wp2_with fail
 refine(HW.out _ HR.out.old).mono ?_
 rintro e w1 ⟨rfl,hd1⟩
 cases hwb:Ck s n ys with
 | false =>
   have:=HWB.out;rw[hwb]at this
   cases this
 | true =>
   have HR1:=Aoy (HR.out.step hd1)
   have HO1:Hid (w1.ownsRow (w.heap.size+1) 35 5 (.slice (some ⟨w.heap.size+1,0,none⟩) 0 0) 0 []):=by
    have h0:=Asi (e:=35) (size:=5) (base:=w.heap.size+1) (w.alloc (.cells #[.complex .f32 cx cy,.int .i64 d,.int .i64 s,.slice a n c,.slice a' ys.length c'] 35)) #[] 0 (by simp) (by decide) rfl
    rw[Apl]at h0
    exact Ab h0 hd1
   obtain⟨r0,r1,r2,r3,r4⟩:=HR1.out.Ad;have hsz1:w.heap.size+1<w1.heap.size:=by have:=hd1.size;simp at this;omega
   clear hd1 hwb
   go_wp2_with fail
   refine(HC.out _).mono ?_
   rintro e w2 ⟨qb,rfl,hqb,hX⟩;have HX:=Aoy (hX.up HR1.out.old);have HR2:=Aoy (HR1.out.step hX.old);have HT2:Hid (Ce (w.heap.size+1) [] (.slice (some ⟨w.heap.size+1,0,none⟩) 0 0) w2):=⟨Ab HO1.out hX.old,fun t ht=>by cases ht⟩
   have hqw:w.heap.size+1<qb:=by omega
   clear hX HR1 HO1 r0 r1 r2 r3 r4;obtain⟨iT,hiT,hzT0,hzT1,hzT2⟩:=Aqz Ac6
   go_wp2
   go_loopw [6,8] (fun o i wr=>∃(k g cap:Nat) (L:List Aj),k<=4/\i=.int .i64 k/\o=.slice (some ⟨g,0,none⟩) k cap/\Hid (L.length=k)/\Hid (A9 w w.heap.size #[.complex .f32 cx cy,.int .i64 d,.int .i64 s,.slice a n c,.slice a' ys.length c'] 35 wr)/\Hid (A9 w qb (Lw cx cy d s) 23 wr)/\Hid (Ce (w.heap.size+1) L (.slice (some ⟨g,0,none⟩) k cap) wr)/\Hid (∀j t,L[j]?=some t->t.cx=(Bj cx cy d s j).1/\t.cy=(Bj cx cy d s j).2/\t.deep=(d:Int)+1/\t.size=s/\Dq A4 t)) (fun _ i _=>(4-intOf i).toNat)
   case atStart=>exact⟨0,w.heap.size+1,0,[],by omega,rfl,rfl,rfl,HR2.out,HX.out,HT2.out,fun j t h=>by simp at h⟩
   case round =>
    clear HR2 HX HT2;obtain⟨k,g,cap,L,hk,rfl,rfl,HL,HR,HX,HT,HQL⟩:=hrel
    by_cases hlt:k<4
    ·have x0:=HX.out.cell k _ (A9m cx cy d s k hlt);obtain⟨r0,r1,r2,r3,r4⟩:=HR.out.Ad;have hq2:=HQ2.out k hlt;have e1:IntKind.i64.wrap ((d:Int)+1)=(d:Int)+1:=Aq4 _ (by omega)
     have HF:Hid (∀W,Below wr.heap.size wr W->A9 w w.heap.size #[.complex .f32 cx cy,.int .i64 d,.int .i64 s,.slice a n c,.slice a' ys.length c'] 35 W/\A9 w qb (Lw cx cy d s) 23 W/\Ce (w.heap.size+1) L (.slice (some ⟨g,0,none⟩) k cap) W):=fun W h=>⟨HR.out.step h,HX.out.step h,HT.out.step h⟩
     have hszw:=HR.out.lt;have hqx:=HX.out.lt;generalize hpx:(Bj cx cy d s k).1=px at *;generalize hpy:(Bj cx cy d s k).2=py at *;have HPX:=Aoy hpx;have HPY:=Aoy hpy;clear hpx hpy
     go_upto_region 8 with fail
     go_cut [9,10]from 18 to 44 (fun p o wx=>∃(pb x y:Nat) (dd ss:Int) (a1:Option Addr) (n1 c1:Nat) (a2:Option Addr) (n2 c2:Nat) (ok:Bool),p=.pointer (some ⟨pb,0,none⟩)/\o=.bool ok/\Ah4 wr px py ((d:Int)+1) s A4 pb x y dd ss a1 n1 c1 a2 n2 c2 ok wx)
     case first =>
      go_region_with (first
       |(go_at_call 18
         refine(Y9 px py _ _ _ hq2.1 hq2.2 _).mono ?_
         rintro e w5 ⟨⟨x,y,dd,ss,a1,n1,c1,a2,n2,c2,ok,rfl,hM⟩,hb5⟩
         first
          |(have Z:=(A9.new wr.drew #[.complex .f32 0 0,.int .i64 0,.int .i64 0,.slice none 0 0,.slice none 0 0] 35).step hb5
            have z0:w5.cell? ⟨wr.heap.size,0,none⟩=some (.complex .f32 0 0):=Z.cell 0 _ rfl;have z1:w5.cell? ⟨wr.heap.size,1,none⟩=some (.int .i64 0):=Z.cell 1 _ rfl;have z2:w5.cell? ⟨wr.heap.size,2,none⟩=some (.int .i64 0):=Z.cell 2 _ rfl;have z3:w5.cell? ⟨wr.heap.size,3,none⟩=some (.slice none 0 0):=Z.cell 3 _ rfl;have z4:w5.cell? ⟨wr.heap.size,4,none⟩=some (.slice none 0 0):=Z.cell 4 _ rfl;have f0:w5.frozen? ⟨wr.heap.size,0,none⟩=false:=Z.frozen 0;have f1:w5.frozen? ⟨wr.heap.size,1,none⟩=false:=Z.frozen 1;have f2:w5.frozen? ⟨wr.heap.size,2,none⟩=false:=Z.frozen 2;have f3:w5.frozen? ⟨wr.heap.size,3,none⟩=false:=Z.frozen 3;have f4:w5.frozen? ⟨wr.heap.size,4,none⟩=false:=Z.frozen 4;clear Z)
          | skip))
      all_goals
       go_wp2_with fail
       go_meet
       first
        |(with_reducible exact⟨w5.heap.size,x,y,dd,ss,a1,n1,c1,a2,n2,c2,ok,rfl,rfl,Aji hM hb5⟩)
        |(with_reducible exact⟨wr.heap.size,x,y,dd,ss,a1,n1,c1,a2,n2,c2,ok,rfl,rfl,Ajj hM hb5⟩)
     case rest =>
      obtain⟨pb,x,y,dd,ss,a1,n1,c1,a2,n2,c2,ok,rfl,rfl,hcutp⟩:=hcut;obtain⟨hbc,hpb,hbx,hres,hno⟩:=hcutp;have HNO:=Aoy hno;clear hno;obtain⟨R3,X3,T3⟩:=HF.out _ hbc;have hres2:=Aoy hres;have hsc:=R3.lt;obtain⟨p0,p1,p2,p3,p4⟩:=hbx.Ad;have hpl:=hbx.lt;have HR3:=Aoy R3;have HX3:=Aoy X3;have HT3:=Aoy T3;clear hres hbc hbx R3 X3 T3 HF HR HX HT r0 r1 r2 r3 r4 x0 e1
      cases ok with
      | false =>
        have HB:=Aoy (HR3.out.old.alloc (by omega) (.cells #[] 35))
        go_wp2
        go_ret2
        exact⟨.inl ⟨_,_,rfl,k,hlt,by rw[HPX.out,HPY.out];exact HNO.out (by first|rfl|trivial)⟩,HB.out⟩
      | true =>
        obtain⟨t,e1,e2,e3,e4,e5,ht,hgood⟩:=hres2.out rfl;have HGD:=Aoy hgood;clear hgood;have HTo:=Aoy ht
        have HC5:Hid ([.complex .f32 x y,.int .i64 dd,.int .i64 ss,.slice a1 n1 c1,.slice a2 n2 c2]=t.cells):=by
         injection e5 with e5
         have:=congrArg Array.toList e5
         exact this
        have HE:Hid (t.cx=(Bj cx cy d s k).1/\t.cy=(Bj cx cy d s k).2/\t.deep=(d:Int)+1/\t.size=s/\Dq A4 t):=by
         refine⟨e1.trans HPX.out.symm,e2.trans HPY.out.symm,e3,e4,HGD.out⟩
        have hbs:w.heap.size+1<=wc.heap.size:=by omega
        have HL2:Hid (∀j t',(L++[t])[j]?=some t'->t'.cx=(Bj cx cy d s j).1/\t'.cy=(Bj cx cy d s j).2/\t'.deep=(d:Int)+1/\t'.size=s/\Dq A4 t'):=fun j t' hj=>by
         have hLk:=HL.out
         by_cases hjk:j<L.length
         ·rw[Ar4 hjk]at hj
          exact HQL.out j t' hj
         ·rw[Are (by omega)]at hj
          by_cases h0:j-L.length=0
          ·rw[h0]at hj;injection hj with hj
           obtain rfl:j=k:=by omega
           rw[<-hj];exact HE.out
          ·rw[As9 (by simp;omega)]at hj;cases hj
        clear e1 e2 e3 e4 e5 ht hres2
        go_wp2_with (at_builtin;refine wpList_append_lies _ rfl _ _ _ rfl (w.heap.size+1) 35 iT _ 5 72 (Vp.Dw Tryz.underlying56) hiT hzT0 hzT1 hzT2 rfl (by omega) _ k (Ac L) rfl (by rw[<-HL.out];have:=(HT3.out.row.alloc (.cells #[.complex .f32 x y,.int .i64 dd,.int .i64 ss,.slice a1 n1 c1,.slice a2 n2 c2] 35));rw[HL.out]at this ⊢;exact this) ⟨wc.heap.size,0,none⟩ 1 1 [.complex .f32 x y,.int .i64 dd,.int .i64 ss,.slice a1 n1 c1,.slice a2 n2 c2] rfl rfl (World.news_of_block (cs:=#[.complex .f32 x y,.int .i64 dd,.int .i64 ss,.slice a1 n1 c1,.slice a2 n2 c2]) (t:=35) (fr:=(0,0)) (Arc wc _)) (by intro u hu;simp only[Aqe,Aqc,As6]at hu;rcases hu with rfl|rfl|rfl|rfl|rfl<;>rfl) (by omega) (by unfold maxLen;omega) (by omega) (by simp;omega) (wc.heap.size+1) (by simp) ?_;intro g8 c8 w8 hown hgrow _ _)
        have T9:=HT3.out.step ((Aph _ _).alloc (Ap0 _) (.cells #[.complex .f32 x y,.int .i64 dd,.int .i64 ss,.slice a1 n1 c1,.slice a2 n2 c2] 35));have R9:=HR3.out.alloc (.cells #[.complex .f32 x y,.int .i64 dd,.int .i64 ss,.slice a1 n1 c1,.slice a2 n2 c2] 35);have X9:=HX3.out.alloc (.cells #[.complex .f32 x y,.int .i64 dd,.int .i64 ss,.slice a1 n1 c1,.slice a2 n2 c2] 35);have t9:=HTo.out.step ((Aph _ _).alloc (Ap0 _) (.cells #[.complex .f32 x y,.int .i64 dd,.int .i64 ss,.slice a1 n1 c1,.slice a2 n2 c2] 35));have hg:w.heap.size+1<=g:=Zy T9.row;have hrow:∀j,(some g:Option Nat)=some j->w.heap.size<=j:=fun j hj=>by injection hj with hj;omega
        have HR8:=Aoy (R9.grown (row:=some g) hgrow (fun e=>by injection e with e;omega) hrow)
        have HX8:=Aoy (X9.grown (row:=some g) hgrow (Ag T9.row X9.blk (by decide)) hrow)
        have HT8:Hid (Ce (w.heap.size+1) (L++[t]) (.slice (some ⟨g8,0,none⟩) (k+1) c8) w8):=by
         refine⟨?_,fun t' ht'=>?_⟩
         ·rw[Apz,HL.out,Qf,<-HC5.out]
          exact hown
         ·rcases Aq9.1 ht' with h|h
          ·exact(T9.own t' h).grown T9.row hgrow
          ·rw[Arq]at h;rw[h]
           exact(t9.grown T9.row hgrow).mono (by omega)
        clear T9 R9 X9 t9 hown hgrow
        go_roundw
        case rel=>exact⟨k+1,g8,c8,L++[t],by omega,by go_num,rfl,by show(L++[t]).length=k+1;rw[Apz,HL.out];rfl,HR8,HX8,HT8,HL2⟩
        case measure=>simp[intOf];omega
    ·have HT4:Hid (Ce w.heap.size L (.slice (some ⟨g,0,none⟩) k cap) wr):=HT.out.mono (by omega)
     go_wp2
     go_ret2
     exact⟨.inr ⟨L,_,rfl,HT4.out,by have:=HL.out;omega,HQL.out⟩,HR.out.old⟩
end
end Go.Proofs.YtlfleicchbgcmaaGreat
