import Derived.Test.YtlfleicchbgcmaaGreatZr22
import Derived.Test.YtlfleicchbgcmaaGreatZr0
import Derived.Test.YtlfleicchbgcmaaGreatZrK
set_option linter.all false
set_option maxHeartbeats 16000000
set_option maxRecDepth 100000
namespace Go.Proofs.YtlfleicchbgcmaaGreat
section
open Go.RowKit Flo
attribute [local go_sem ↓] Go.wp_at_zero Go.wp_at_succ
section
attribute [local go_sem] A7 A5
theorem A99 (B g cap:Nat)(L:List JT)(hl:L.length<=1000)(hW:∀t,t∈L->Ck t.size t.xs.length t.ys=true)(w:World)(hL:JIn B g L w) :
 Calls Vp.prog 20 #[.slice (some ⟨g,0,none⟩) L.length cap] w fun e w'=>(∃b:Int,e=.returned (.int .i64 b)/\-1<=b/\b<L.length/\A0u L b)/\Below w.heap.size w w':=by
 obtain⟨n,hn⟩:∃n,L.length=n:=⟨_,rfl⟩;have HL:=Aoy hL;have HW:=Aoy hW;have HAT:Hid (∀k,k<n->∃t,L[k]?=some t):=fun k hk=>⟨_,Apd (by omega)⟩
 rw[hn]at hl ⊢;have HN:=Aoy hn;clear hL hW hn
 go_enter Vp.func20,Tryz.ntmps20
 go_wp2
 go_loopw [3,4,5] (fun b m i wr=>∃(k:Nat) (b' m':Int),k<=n/\b=.int .i64 b'/\m=.int .i64 m'/\i=.int .i64 k/\Hid (-1<=b'/\b'<n/\I1 L k b' m')/\Hid (Below w.heap.size w wr)) (fun _ _ i _=>(n-intOf i).toNat)
 case atStart=>exact⟨0,-1,0,by omega,rfl,rfl,rfl,⟨by omega,by omega,.inl ⟨rfl,rfl,fun _ _ h _=>absurd h (Nat.not_lt_zero _)⟩⟩,Aph _ _⟩
 case round =>
  obtain⟨k,b',m',hk,rfl,rfl,rfl,HBB,HB⟩:=hrel
  by_cases hlt:k<n
  ·obtain⟨t,ht⟩:=HAT.out k hlt;have J:=HL.out.step HB.out;obtain⟨p0,p1,p2,p3,p4⟩:=J.Ad ht;have CO:=Aoy (A9a t B wr (J.own t (Aq7 ht)) (HW.out t (Aq7 ht)));have HT:=Aoy ht;have b5:(k:Int)<n:=by omega
   have b6:(0:Int)<=k:=by omega
   clear J ht;obtain⟨c,hc⟩:∃c,cnt 0 t.ys=c:=⟨_,rfl⟩;have HC:=Aoy hc;rw[hc]at CO;clear hc
   go_wp2_with fail
   refine CO.out.mono ?_
   rintro e w1 ⟨rfl,hd⟩;have HB1:=Aoy (HB.out.trans (hd.mono HB.out.size));obtain⟨-,p1,-⟩:=(HL.out.step HB1.out).Ad HT.out;clear hd CO HB p0 p2 p3 p4
   by_cases h1:m' <(c:Int)
   ·have e1:decide (m' <(c:Int))=true:=Apj h1
    by_cases h2:t.deep<10
    ·have e2:decide (t.deep<10)=true:=Apj h2
     have HX:Hid (I1 L (k+1) k c):=by
      have:=I1.take HBB.out.2.2 HT.out (by rw[HC.out];exact h1) h2
      rwa [HC.out]at this
     clear h1 h2
     go_wp2
     go_roundw
     case rel=>exact⟨k+1,k,c,by omega,rfl,rfl,by go_num,⟨by omega,by omega,HX.out⟩,HB1⟩
     case measure=>simp[intOf];omega
    ·have e2:decide (t.deep<10)=false:=Apy h2;have HX:Hid (I1 L (k+1) b' m'):=I1.skip HBB.out.2.2 HT.out (fun g=>h2 g.2)
     clear h1 h2
     go_wp2
     go_roundw
     case rel=>exact⟨k+1,b',m',by omega,rfl,rfl,by go_num,⟨HBB.out.1,HBB.out.2.1,HX.out⟩,HB1⟩
     case measure=>simp[intOf];omega
   ·have e1:decide (m' <(c:Int))=false:=Apy h1;have HX:Hid (I1 L (k+1) b' m'):=I1.skip HBB.out.2.2 HT.out (fun g=>h1 (by rw[<-HC.out];exact g.1))
    clear h1
    go_wp2
    go_roundw
    case rel=>exact⟨k+1,b',m',by omega,rfl,rfl,by go_num,⟨HBB.out.1,HBB.out.2.1,HX.out⟩,HB1⟩
    case measure=>simp[intOf];omega
  ·have HX:Hid (A0u L b'):=by
    have h1:=HBB.out.2.2;rw[show k=L.length by have:=HN.out;omega]at h1
    exact h1.done
   have HBN:Hid (b'<L.length):=by
    have h1:=HBB.out.2.1;rw[HN.out]
    exact h1
   go_wp2
   go_ret
   exact⟨⟨b',rfl,HBB.out.1,by have:=HBN.out;rwa [HN.out]at this,HX.out⟩,HB.out⟩
end
def Yu (w:World)(pv:Value)(L:List (Int×List Int))(n:Nat)(e:Ending)(w':World):Prop :=
 Below w.heap.size w w'/\∃(g cap:Nat),e=.returned (.agg #[pv,.slice (some ⟨g,0,none⟩) n cap,.int .i64 (Hu 1 L),.int .i64 (Hu (-1) L),.int .i64 (Hu 0 L)])/\w'.ownsRow w.heap.size 3 1 (.slice (some ⟨g,0,none⟩) n cap) n ((L.map fun t=>((cnt 0 t.2:Nat):Int)).map Ax)
theorem Xj (B g cap:Nat)(L:List JT)(hl:L.length<=1000)(hW:∀t,t∈L->Ck t.size t.xs.length t.ys=true)(pa:Option Addr)(pn pc:Nat)(w:World)(hL:JIn B g L w) :
 Calls Vp.prog 22 #[.slice (some ⟨g,0,none⟩) L.length cap,.slice pa pn pc] w (Yu w (.slice pa pn pc) (L.map fun t=>(t.deep,t.ys)) L.length):=by
 obtain⟨n,hn⟩:∃n,L.length=n:=⟨_,rfl⟩;have HL:=Aoy hL;have HW:=Aoy hW;have HAT:Hid (∀k,k<n->∃t,L[k]?=some t):=fun k hk=>⟨_,Apd (by omega)⟩
 rw[hn]at hl ⊢;have HNN:=Aoy hn;clear hL hW hn;obtain⟨iI,hiI,hzI0,hzI1,hzI2⟩:=Aqz Qn
 go_enter Vp.func22,Tryz.ntmps22
 go_upto_region 3 with fail
 have HP:Hid (PM w w.heap.size (w.heap.size+1+1) (.slice pa pn pc) 0 [] (.slice (some ⟨w.heap.size+1,0,none⟩) 0 0) 0 0 0 (((w.alloc (.cells #[.slice none 0 0,.slice none 0 0,.int .i64 0,.int .i64 0,.int .i64 0] 29)).alloc (.cells #[] 3)).alloc (.cells #[.slice pa pn pc,.slice (some ⟨w.heap.size+1,0,none⟩) 0 0,.int .i64 0,.int .i64 0,.int .i64 0] 29))):=by
  have R:=((A9.new w #[.slice none 0 0,.slice none 0 0,.int .i64 0,.int .i64 0,.int .i64 0] 29).alloc (.cells #[] 3));have O:=(A9.new ((w.alloc (.cells #[.slice none 0 0,.slice none 0 0,.int .i64 0,.int .i64 0,.int .i64 0] 29)).alloc (.cells #[] 3)) #[.slice pa pn pc,.slice (some ⟨w.heap.size+1,0,none⟩) 0 0,.int .i64 0,.int .i64 0,.int .i64 0] 29).up R.old;have M:=Asi (e:=3) (size:=1) (base:=w.heap.size) (w.alloc (.cells #[.slice none 0 0,.slice none 0 0,.int .i64 0,.int .i64 0,.int .i64 0] 29)) #[] 0 (by simp) (by decide) rfl
  simp only[Apl]at O M
  exact⟨O,R.alloc _,M.alloc _,by omega,Ap0 _,by omega⟩
 generalize ((w.alloc (.cells #[.slice none 0 0,.slice none 0 0,.int .i64 0,.int .i64 0,.int .i64 0] 29)).alloc (.cells #[] 3)).alloc (.cells #[.slice pa pn pc,.slice (some ⟨w.heap.size+1,0,none⟩) 0 0,.int .i64 0,.int .i64 0,.int .i64 0] 29)=w1 at *;generalize w.heap.size+1+1=ob at *;generalize w.heap.size+1=g0 at *
 go_loopw [6] (fun i wr=>∃(k g' cap':Nat) (p q r:Int),k<=n/\i=.int .i64 k/\Hid (PM w w.heap.size ob (.slice pa pn pc) k ((L.take k).map fun t=>((cnt 0 t.ys:Nat):Int)) (.slice (some ⟨g',0,none⟩) k cap') p q r wr)/\Hid (p=Hu 1 ((L.take k).map fun t=>(t.deep,t.ys))/\q=Hu (-1) ((L.take k).map fun t=>(t.deep,t.ys))/\r=Hu 0 ((L.take k).map fun t=>(t.deep,t.ys)))) (fun i _=>(n-intOf i).toNat)
 case atStart=>exact⟨0,g0,0,0,0,0,by omega,rfl,HP,rfl,rfl,rfl⟩
 case round =>
  clear HP;obtain⟨k,g',cap',p,q,r,hk,rfl,HP,HSU⟩:=hrel;obtain⟨ms,hms⟩:∃ms,ms=(L.take k).map fun t=>((cnt 0 t.ys:Nat):Int):=⟨_,rfl⟩
  have HMS:=Aoy hms;rw[<-hms]at HP;clear hms
  by_cases hlt:k<n
  ·obtain⟨t,ht⟩:=HAT.out k hlt;have J:=HL.out.step HP.out.O.old;have T:=J.own t (Aq7 ht);obtain⟨p0,p1,p2,p3,p4⟩:=J.Ad ht;have hlm:=T.lim;have CC:=Ks t.cx t.cy t.deep t.size T.bx T.by1 T.pl t.a1 t.a2 t.xs.length t.c1 t.c2 t.ys (by omega) wr T.s2 (HW.out t (Aq7 ht))
   have hcq:I9 t.ys t.ys.length=#[.int .i64 (cnt 1 t.ys:Nat),.int .i64 (cnt (-1) t.ys:Nat),.int .i64 (cnt 0 t.ys:Nat)]:=by unfold I9;rw[List.take_length]
   rw[hcq]at CC;replace CC:=Aoy CC;obtain⟨sh1,hs1⟩:∃s:Nat,10-t.deep=(s:Int):=⟨(10-t.deep).toNat,by omega⟩
   obtain⟨sh2,hs2⟩:∃s:Nat,2 *(sh1:Int)=(s:Int):=⟨2*sh1,by omega⟩
   have hs3:sh2<=20:=by omega
   have HT:=Aoy ht;have b5:(k:Int)<n:=by omega
   have b6:(0:Int)<=k:=by omega
   have hdp:0<=t.deep/\t.deep<=10:=⟨hlm.2.2.1,hlm.2.2.2.1⟩;clear J T hlm hcq ht;have HM1:Hid (∃m0 m1 m2:Nat,cnt 1 t.ys=m0/\cnt (-1) t.ys=m1/\cnt 0 t.ys=m2):=⟨_,_,_,rfl,rfl,rfl⟩;obtain⟨m0,m1,m2,hm0,hm1,hm2⟩:=HM1.out;rw[hm0,hm1,hm2]at CC;have HMM:=Aoy (And.intro hm0 (And.intro hm1 hm2))
   have HSH:Hid ((2 *(10-t.deep)).toNat=sh2):=by
    show _=_
    omega
   have HTK:Hid (L.take (k+1)=L.take k++[t]):=by
    show _=_
    rw[List.take_add_one,HT.out];rfl
   clear HM1 hm0 hm1 hm2
   go_wp2_with fail
   refine CC.out.mono ?_
   rintro e w2 ⟨b,rfl,hb,hC⟩;have P2:=HP.out.step hC.old;obtain⟨-,q1,-⟩:=(HL.out.step P2.O.old).Ad HT.out;have HP2:=Aoy P2;have HC2:=Aoy (hC.up HP.out.O.old);have hbg:g'<b:=by have:=(HP.out.M.lt g' rfl).2;omega
   have hbo:ob<b:=by have:=HP.out.O.lt;omega
   clear P2 hC CC HP p0 p1 p2 p3 p4
   go_upto_region 7 with fail
   obtain⟨-,o1,o2,o3,o4⟩:=HP2.out.O.Ad;have c2:=HC2.out.cell 2 _ rfl;have hbl:=HC2.out.lt;have hol:=HP2.out.O.lt;have hbase:=HP2.out.O.old.size;have hww:w.heap.size<=w2.heap.size:=hbase
   go_cut []from 35 to 42 (fun wx=>∃g2 cap2,Hid (PM w w.heap.size ob (.slice pa pn pc) (k+1) (ms++[(m2:Int)]) (.slice (some ⟨g2,0,none⟩) (k+1) cap2) p q r wx)/\Hid (A9 w b #[.int .i64 m0,.int .i64 m1,.int .i64 m2] 3 wx))
   case first =>
    go_region_law (first
     |(refine step_append_lies _ (by rfl) _ _ _ (by rfl) w.heap.size 3 iI _ 1 8 (Vp.Dw Tryz.underlying27) hiI hzI0 hzI1 hzI2 rfl (by omega) _ k (ms.map Ax) (by rfl) (Ab (HP2.out.M.alloc _) ((Au.refl _).drew.below _)) ⟨w2.heap.size,0,none⟩ 1 1 [Ax m2] (by rfl) (by rfl) (World.news_of_block (cs:=#[Ax m2]) (t:=3) (fr:=(0,0)) (Arc w2 _)) (by simp[Ax,Value.oneCell']) (by omega) (by unfold maxLen;omega) (by omega) (by simp;omega) (w2.heap.size+1) (by simp) ?_
       intro g6 c6 w6 hown hgrow _ _;obtain⟨T6,k6,f6⟩:=((HP2.out.alloc (.cells #[.int .i64 m2] 3)).step ((Au.refl _).drew.below _)).mark hown hgrow;have C6:=(((HC2.out.alloc (.cells #[.int .i64 m2] 3)).step ((Au.refl _).drew.below _)).grown hgrow (by simp only[Value.ownBlock,ne_eq,Aqj];omega) (fun j hj=>(HP2.out.M.lt j hj).1)).other (p:=⟨ob,1,none⟩) HP2.out.ho (by simp;omega) (.slice (some ⟨g6,0,none⟩) (k+1) c6)
       have H6:=Aoy (And.intro T6 C6);clear T6 C6 hown hgrow))
    all_goals
     go_wp2_with fail
     go_meet
     exact⟨g6,c6,H6⟩
   case rest =>
    obtain⟨g2,cap2,HP3,HC3⟩:=hcut;clear HP2 HC2 o1 o2 o3 o4 c2 hbl hol hww hbase q1 hbg
    have hwt:wrap64 (2^sh2)=wtD t.deep:=by
     unfold wtD;rw[HSH.out]
    have HWT:=Aoy hwt;clear hwt;generalize wrap64 (2^sh2)=wt at *
    go_upto_region 8 with fail
    obtain⟨-,-,o2,o3,o4⟩:=HP3.out.O.Ad;have c0:=HC3.out.cell 0 _ rfl;have c1:=HC3.out.cell 1 _ rfl;have c2:=HC3.out.cell 2 _ rfl;have f2:=HP3.out.O.frozen 2;have f3:=HP3.out.O.frozen 3;have f4:=HP3.out.O.frozen 4;have hbl:=HC3.out.lt;have hol:=HP3.out.O.lt
    go_cut []from 43 to 51 (fun wx=>∃x:Int,x=wrap64 (p+wrap64 ((m0:Int)*wt))/\wx=(wc.setCell ⟨ob,2,none⟩ (.int .i64 x)).drew)
    case first =>
     go_region_with (fail)
     all_goals
      go_wp2_with fail
      go_meet
      exact⟨_,by rw[Aqi wt];simp only[IntWalk.i64_left],rfl⟩
    case rest =>
     obtain⟨x2,hx,rfl⟩:=hcut;have HX2:=Aoy hx;clear hx;have hco:b≠ob:=by omega
     have HP4:=Aoy ((HP3.out.Uc x2).step ((Au.refl _).drew.below _));have HC4:=Aoy ((HC3.out.other (p:=⟨ob,2,none⟩) HP3.out.ho hco (.int .i64 x2)).step ((Au.refl _).drew.below _));clear HP3 HC3 o2 o3 o4 c0 c1 c2 f2 f3 f4 hbl hol
     go_upto_region 9 with fail
     generalize (wc.setCell ⟨ob,2,none⟩ (.int .i64 x2)).drew=wd at *;obtain⟨-,-,-,o3,o4⟩:=HP4.out.O.Ad;have c1:=HC4.out.cell 1 _ rfl;have c2:=HC4.out.cell 2 _ rfl;have f3:=HP4.out.O.frozen 3;have f4:=HP4.out.O.frozen 4;have hbl:=HC4.out.lt;have hol:=HP4.out.O.lt
     go_cut []from 52 to 60 (fun wx=>∃x:Int,x=wrap64 (q+wrap64 ((m1:Int)*wt))/\wx=(wd.setCell ⟨ob,3,none⟩ (.int .i64 x)).drew)
     case first =>
      go_region_with (fail)
      all_goals
       go_wp2_with fail
       go_meet
       exact⟨_,by rw[Aqi wt];simp only[IntWalk.i64_left],rfl⟩
     case rest =>
      obtain⟨x3,hx,rfl⟩:=hcut;have HX3:=Aoy hx;clear hx;have HP5:=Aoy ((HP4.out.Aim x3).step ((Au.refl _).drew.below _));have HC5:=Aoy ((HC4.out.other (p:=⟨ob,3,none⟩) HP4.out.ho hco (.int .i64 x3)).step ((Au.refl _).drew.below _));clear HP4 HC4 o3 o4 c1 c2 f3 f4 hbl hol
      go_upto_region 10 with fail
      generalize (wd.setCell ⟨ob,3,none⟩ (.int .i64 x3)).drew=we at *;obtain⟨-,-,-,-,o4⟩:=HP5.out.O.Ad;have c2:=HC5.out.cell 2 _ rfl;have f4:=HP5.out.O.frozen 4;have hbl:=HC5.out.lt;have hol:=HP5.out.O.lt;have HPF:=Aoy (fun x:Int=>(HP5.out.A3f x).step (W':=(we.setCell ⟨ob,4,none⟩ (.int .i64 x)).drew) ((Au.refl _).drew.below _))
      go_region_with (fail)
      all_goals
       clear o4 c2 f4 hbl hol HP5 HC5
       go_wp2
       go_roundw
       case rel =>
        refine⟨k+1,g2,cap2,x2,x3,wrap64 (r+wrap64 ((m2:Int)*wt)),by omega,by go_num,?_,?_⟩
        ·rw[HTK.out,Aq2,<-HMS.out,Aqi (m2:Int) wt,List.map_singleton,HMM.out.2.2]
         exact HPF.out _
        ·rw[HTK.out];simp only[Aq2,Aqo,Asr,Yd];rw[<-HSU.out.1,<-HSU.out.2.1,<-HSU.out.2.2,HMM.out.1,HMM.out.2.1,HMM.out.2.2,<-HWT.out]
         exact⟨HX2.out,HX3.out,rfl⟩
       case measure=>simp[intOf];omega
  ·obtain rfl:k=n:=by omega
   have hTK:L.take k=L:=Ar3 (by have:=HNN.out;omega)
   obtain⟨q1,q2,q3⟩:=HSU.out;have hms:=HMS.out;rw[hTK]at q1 q2 q3 hms;have HQ:=Aoy (And.intro q1 (And.intro q2 (And.intro q3 hms)));clear q1 q2 q3 hms hTK;obtain⟨o0,o1,o2,o3,o4⟩:=HP.out.O.Ad;obtain⟨r0,r1,r2,r3,r4⟩:=HP.out.R.Ad;obtain⟨f0,f1,f2,f3,f4⟩:=HP.out.R.Hk;have hne:=HP.out.ne
   go_wp2
   refine Ap4 (v:=.agg #[.slice pa pn pc,.slice (some ⟨g',0,none⟩) k cap',.int .i64 p,.int .i64 q,.int .i64 r]) (by simp[results,Tryz.f22,go_sem,r0,r1,r2,r3,r4]) rfl ⟨Ly HP.out.O.old (Ap0 _) _ _ _ _ _,g',cap',?_,?_⟩
   ·rw[<-HQ.out.1,<-HQ.out.2.1,<-HQ.out.2.2.1]
   ·have e:(L.map (fun t:JT=>(t.deep,t.ys))).map (fun t:Int×List Int=>((cnt 0 t.2:Nat):Int))=L.map fun t:JT=>((cnt 0 t.ys:Nat):Int):=by rw[Au6];rfl
    rw[e,<-HQ.out.2.2.2]
    exact HP.out.fin _ _ _ _ _
end
section
open Go.RowKit Flo
attribute [local go_sem ↓] Go.wp_at_zero Go.wp_at_succ
attribute [local go_sem] A7 A5
theorem Lc.Aol {w w':World}{cx cy d:Nat}{s A4:Int}{e:Ending}(h:Lc w cx cy d s A4 e w') :
 ∃(v:Value) (ok:Bool),e=.returned (.tuple #[v,.bool ok]) /\(ok=false->¬L9 cx cy d s) /\(ok=true->∃L,Ce w.heap.size L v w'/\L.length=4/\∀(k:Nat) t,L[k]?=some t->t.cx=(Bj cx cy d s k).1/\t.cy=(Bj cx cy d s k).2/\t.deep=(d:Int)+1/\t.size=s/\Dq A4 t)/\Below w.heap.size w w':=by
 rcases h with⟨⟨a0,c0,rfl,k,hk,hn⟩ |⟨L,v,rfl,h1,h2,h3⟩,hb⟩
 ·exact⟨_,false,rfl,fun _ hs=>hn (hs k hk),(fun h=>by cases h),hb⟩
 ·exact⟨v,true,rfl,(fun h=>by cases h),fun _=>⟨L,h1,h2,h3⟩,hb⟩
theorem PV.at' {c:F8}{bd m:Nat}{L:List Aj}{P:List ByteArray}(h:PV c bd m L P){k:Nat}{s:ByteArray}{t:Aj}(hs:P[k]?=some s)(ht:L[k]?=some t):J7 c s.toList t:=by
 obtain⟨Z,rfl,rfl,hZ⟩:=h.zip;rw[Apv]at hs ht;obtain⟨q,hq,rfl⟩:=Ape.1 hs;rw[hq]at ht;obtain rfl:q.2=t:=by simpa using ht
 exact hZ q (Aq7 hq)
theorem Acd (s:ByteArray):[s ++(⟨#[48]⟩:ByteArray),s ++⟨#[49]⟩,s ++⟨#[50]⟩,s ++⟨#[51]⟩].map ByteArray.toList=kids s.toList:=by
 have h:∀x:UInt8,(s ++(⟨#[x]⟩:ByteArray)).toList=s.toList++[x]:=fun x=>by
  rw[toList_data,toList_data,ByteArray.data_append];simp
 unfold kids;simp only[Aqo,Asr,h]
theorem A31 {c:F8}{w wz:World}{cx cy:Nat}{size A4:Int}{d0 bd m ln gp cp gz capz:Nat}{L:List Aj}{P:List ByteArray}{pz qz rz:Int}{lv':Value}(hMK:Wi cx cy d0 size)(hc:c=⟨size,A4,cx,cy,d0⟩)(hbd:bd<=30)(hV:PV c bd m L P)(hE:∃G,(D5 c).Eu bd [[]] (some G) /\(P.map ByteArray.toList).Perm G)(hln:L.length=ln)(h0:0<ln)(h1:ln<=91)
 (hK:PK w m L P lv' (.slice (some ⟨gp,0,none⟩) ln cp) wz) (hS:wz.ownsRow w.heap.size 9 1 (.slice (some ⟨gp,0,none⟩) ln cp) ln (P.map Value.string)) (hO:wz.ownsRow w.heap.size 3 1 (.slice (some ⟨gz,0,none⟩) ln capz) ln ((((L.map JT.of).map fun t=>(t.deep,t.ys)).map fun t=>((cnt 0 t.2:Nat):Int)).map Ax))
 (hz:pz=Hu 1 ((L.map JT.of).map fun t=>(t.deep,t.ys))/\qz=Hu (-1) ((L.map JT.of).map fun t=>(t.deep,t.ys))/\rz=Hu 0 ((L.map JT.of).map fun t=>(t.deep,t.ys))) :
 Hm w cx cy d0 size A4 bd (fun L=>L.Pairwise Left) (.returned (.tuple #[.agg #[.slice (some ⟨gp,0,none⟩) ln cp,.slice (some ⟨gz,0,none⟩) ln capz,.int .i64 pz,.int .i64 qz,.int .i64 rz],.bool true]))
  (((((wz.setCell ⟨w.heap.size,0,none⟩ (.slice (some ⟨gp,0,none⟩) ln cp)).setCell ⟨w.heap.size,1,none⟩ (.slice (some ⟨gz,0,none⟩) ln capz)).setCell ⟨w.heap.size,2,none⟩ (.int .i64 pz)).setCell ⟨w.heap.size,3,none⟩ (.int .i64 qz)).setCell ⟨w.heap.size,4,none⟩ (.int .i64 rz)):=by
 subst hc;obtain⟨G,hG,hGp⟩:=hE
 have hlen:(P.map ByteArray.toList).length=L.length:=by
  obtain⟨Z,rfl,rfl,hZ⟩:=hV.zip;simp
 have hAt:∀(i:Nat) bs (t:Aj),(P.map ByteArray.toList)[i]?=some bs->L[i]?=some t->J7 ⟨size,A4,cx,cy,d0⟩ bs t:=fun i bs t e1 e2=>by
  rw[Apv]at e1;obtain⟨s,hs,rfl⟩:=Ape.1 e1
  exact hV.at' hs e2
 have hj:(L.map JT.of).map (fun t=>(t.deep,t.ys))=L.map fun t=>(t.deep,t.ys):=by rw[Au6];rfl
 rw[hj]at hz hO;obtain⟨rfl,rfl,rfl⟩:=hz
 have hop:(P.map ByteArray.toList).map (Iu ⟨size,A4,cx,cy,d0⟩ 0)=(L.map fun t=>(t.deep,t.ys)).map fun t=>((cnt 0 t.2:Nat):Int):=by
  rw[A7j hlen hAt,Au6]
  rfl
 refine⟨Ly hK.R.old (Ap0 _) _ _ _ _ _,.inr ⟨d0,bd,P.map ByteArray.toList,G,rfl,rfl,hbd,hMK,⟨gp,cp,gz,capz,ln,P,?_,?_,?_,rfl,by rw[hlen,hln],h0,h1,fun s hs=>?_⟩,hV.left,hG,hGp⟩⟩
 ·rw[Sf hlen hAt,Sf hlen hAt,Sf hlen hAt]
 ·exact Hr hS hK.R (Ap0 _) (by decide) _ _ _ _ _
 ·rw[hop]
  exact Hr hO hK.R (Ap0 _) (by decide) _ _ _ _ _
 ·obtain⟨i,hi⟩:=Auq hs
  have hil:i<L.length:=by
   have:=(Apg.1 hi).1;rw[Aqs]at hlen
   omega
  have ht:L[i]?=some L[i]:=Apd hil;have e1:=(hV.at' hi ht).deep;have e2:=(Bs (hK.T.own _ (Aq7 ht)).pl).2.1;have e3:s.toList.length=s.size:=by rw[toList_data];exact Aqw
  have e4:(D5 (⟨size,A4,cx,cy,d0⟩:F8)).deep s.toList=(d0:Int)+s.toList.length:=rfl
  omega
theorem A00 (cx cy:Nat)(deep size A4 budget:Int)(hx:cx<4294967296)(hy:cy<4294967296)(w:World) :
 Calls Vp.prog 7 #[.complex .f32 cx cy,.int .i64 deep,.int .i64 size,.int .i64 A4,.int .i64 budget] w (Hm w cx cy deep size A4 budget (fun L=>L.Pairwise Left)):=by
 obtain⟨iT,hiT,hzT0,hzT1,hzT2⟩:=Aqz Ac6;obtain⟨iS,hiS,hzS0,hzS1,hzS2⟩:=Aqz A78;have R:=A9.new w #[.slice none 0 0,.slice none 0 0,.int .i64 0,.int .i64 0,.int .i64 0] 29;have HR:=Aoy R;clear R
 go_enter Vp.func7,Tryz.ntmps7
 go_wp2_with fail
 refine(Y9 cx cy deep size A4 hx hy _).mono ?_
 rintro e w1 ⟨⟨x,y,d,s,a1,n1,c1,a2,n2,c2,ok,rfl,hM⟩,hb1⟩;have HR1:=Aoy ((HR.out.step hb1).alloc (.cells #[.complex .f32 x y,.int .i64 d,.int .i64 s,.slice a1 n1 c1,.slice a2 n2 c2] 35));have X1:=(A9.new w1 #[.complex .f32 x y,.int .i64 d,.int .i64 s,.slice a1 n1 c1,.slice a2 n2 c2] 35).up (HR.out.step hb1).old;have HX1:=Aoy X1;have hw1:w.heap.size<w1.heap.size:=(HR.out.step hb1).lt
 have hO:Hid (ok=true->∃t,([.complex .f32 x y,.int .i64 d,.int .i64 s,.slice a1 n1 c1,.slice a2 n2 c2]=t.cells)/\Cn w.heap.size t (w1.alloc (.cells #[.complex .f32 x y,.int .i64 d,.int .i64 s,.slice a1 n1 c1,.slice a2 n2 c2] 35))/\t.cx=cx/\t.cy=cy/\t.deep=deep/\t.size=size/\Dq A4 t):=fun hok=>by
  obtain⟨t,q1,q2,q3,q4,ht,hO,hG⟩:=hM.2 hok
  refine⟨t,?_,(hO.mono (B':=w.heap.size) (by simp)).step ((Aph _ _).alloc (Ap0 _) (.cells #[.complex .f32 x y,.int .i64 d,.int .i64 s,.slice a1 n1 c1,.slice a2 n2 c2] 35)),q1,q2,q3,q4,hG⟩
  injection ht with ht
  exact congrArg Array.toList ht
 have hNO:Hid (ok=false->¬Wi cx cy deep size):=fun hok=>(hM.1 hok).1
 clear hM hb1 HR X1
 go_upto_region 2 with fail
 generalize w1.alloc (.cells #[.complex .f32 x y,.int .i64 d,.int .i64 s,.slice a1 n1 c1,.slice a2 n2 c2] 35)=wa at *;generalize w1.heap.size=tb at *;obtain⟨r0,r1,r2,r3,r4⟩:=HR1.out.Ad;obtain⟨f0,f1,f2,f3,f4⟩:=HR1.out.Hk
 cases ok with
 | false =>
   have HNOK:Hid (¬K1 cx cy deep size A4 budget):=fun⟨_,_,_,_,_,_,h,_⟩=>hNO.out rfl h
   clear HX1 hO hNO
   go_wp2
   exact Ap4 (v:=.tuple #[.agg #[.slice none 0 0,.slice none 0 0,.int .i64 0,.int .i64 0,.int .i64 0],.bool false]) (by simp[results,Tryz.f7,go_sem,r0,r1,r2,r3,r4]) rfl ⟨Ly HR1.out.old (Ap0 _) _ _ _ _ _,.inl ⟨rfl,HNOK.out⟩⟩
 | true =>
   obtain⟨t,ht,hO',q1,q2,q3,q4,hgood⟩:=hO.out rfl;obtain⟨d0,s0,hd0,hs0,-,-,-,-⟩:=hgood.n
   have hMK:Wi cx cy deep size:=by
    obtain⟨d,s,a,b,g1,g2,g3,-,-⟩:=hgood;rw[<-q1,<-q2,<-q3,<-q4]
    exact⟨d,s,a,b,g1,g2,g3⟩
   have HMKP:=Aoy hMK;have hd1:deep=d0:=q3.symm.trans hd0;subst hd1;obtain⟨c,hc⟩:∃c:F8,c=⟨size,A4,cx,cy,d0⟩:=⟨_,rfl⟩;have HCC:=Aoy hc
   have hat:J7 c [] t:=by
    rw[hc]
    exact⟨⟨d0,hd0,q1,q2,rfl⟩,q4,hgood⟩
   have HAT:=Aoy hat;clear hMK hat hc hgood q1 q2 q3 q4 hd0 hs0 hNO;have HTC:=Aoy ht;have HO:=Aoy hO';obtain⟨x0,x1,x2,x3,x4⟩:=HX1.out.Ad;clear ht hO' hO
   go_wp2_with fail
   refine(Cb _ _ _ _).mono ?_
   rintro e w2 ⟨rfl,rfl⟩
   cases hin:Gt budget 0 30 with
   | false =>
     have HNOK:Hid (¬K1 cx cy d0 size A4 budget):=fun⟨_,bd,_,_,e,h,_⟩=>by
      unfold Gt at hin;simp only[Bool.and_eq_false_iff,Asg]at hin
      omega
     clear hin
     go_wp2
     exact Ap4 (v:=.tuple #[.agg #[.slice none 0 0,.slice none 0 0,.int .i64 0,.int .i64 0,.int .i64 0],.bool false]) (by simp[results,Tryz.f7,go_sem,r0,r1,r2,r3,r4]) rfl ⟨Ly HR1.out.old (Ap0 _) _ _ _ _ _,.inl ⟨rfl,HNOK.out⟩⟩
   | true =>
     have hbud:0<=budget/\budget<=30:=by
      unfold Gt at hin
      simpa only[Ap7,Apm]using hin
     obtain⟨bd,rfl⟩:=Aqg hbud.1;have hbd:bd<=30:=by omega
     clear hin hbud
     go_upto_region 6 with fail
     have HK:Hid (PK w 0 [t] [⟨#[]⟩] (.slice (some ⟨wa.heap.size,0,none⟩) 1 1) (.slice (some ⟨wa.heap.size+1,0,none⟩) 1 1) ((wa.alloc (.cells #[.complex .f32 x y,.int .i64 d,.int .i64 s,.slice a1 n1 c1,.slice a2 n2 c2] 35)).alloc (.cells #[.string ⟨#[]⟩] 9))):=by
      have hs:=HR1.out.old.size;have T:=Asi (e:=35) (size:=5) (base:=w.heap.size) wa #[.complex .f32 x y,.int .i64 d,.int .i64 s,.slice a1 n1 c1,.slice a2 n2 c2] 1 hs (by decide) rfl
      have S:=Asi (e:=9) (size:=1) (base:=w.heap.size) (wa.alloc (.cells #[.complex .f32 x y,.int .i64 d,.int .i64 s,.slice a1 n1 c1,.slice a2 n2 c2] 35)) #[.string ⟨#[]⟩] 1 (by simp;omega) (by decide) rfl
      rw[Apl]at S
      refine⟨(HR1.out.alloc _).alloc _,⟨?_,fun u hu=>?_⟩,S,?_,by simp,by simp⟩
      ·have e:Ac [t]=[.complex .f32 x y,.int .i64 d,.int .i64 s,.slice a1 n1 c1,.slice a2 n2 c2]:=by
        rw[HTC.out];show t.cells++[]=_;rw[Ass]
       rw[e]
       exact T.alloc _
      ·obtain rfl:u=t:=by simpa using hu
       exact(HO.out.step ((Aph _ _).alloc (Ap0 _) _)).step ((Aph _ _).alloc (Ap0 _) _)
      ·intro u hu;obtain rfl:u=⟨#[]⟩:=by simpa using hu
       exact Ap0 _
     generalize (wa.alloc (.cells #[.complex .f32 x y,.int .i64 d,.int .i64 s,.slice a1 n1 c1,.slice a2 n2 c2] 35)).alloc (.cells #[.string ⟨#[]⟩] 9)=wb at *;generalize wa.heap.size+1=gp0 at *;generalize wa.heap.size=g0 at *;clear HR1 HX1 HO HTC r0 r1 r2 r3 r4 f0 f1 f2 f3 f4 x0 x1 x2 x3 x4 hw1
     go_wp2
     go_loopw [14,15,16] (fun lv pv i wr=>∃(m ln g cap gp cp:Nat) (L:List Aj) (P:List ByteArray),m<=bd/\i=.int .i64 m/\lv=.slice (some ⟨g,0,none⟩) ln cap/\pv=.slice (some ⟨gp,0,none⟩) ln cp/\Hid (L.length=ln)/\Hid (PV c bd m L P)/\Hid (PK w m L P (.slice (some ⟨g,0,none⟩) ln cap) (.slice (some ⟨gp,0,none⟩) ln cp) wr)) (fun _ _ i _=>(bd-intOf i).toNat)
     case atStart=>exact⟨0,1,g0,1,gp0,1,[t],[⟨#[]⟩],by omega,rfl,rfl,rfl,rfl,PV.first HAT.out,HK⟩
     case round =>
      clear HK;obtain⟨m,ln,g,cap,gp,cp,L,P,hm,rfl,rfl,rfl,HLN,HV,HK⟩:=hrel;have hln:ln<=91:=by have:=HK.out.lim;have:=HLN.out;omega
      have hln1:1<=ln:=by have:=HK.out.pos;have:=HLN.out;omega
      by_cases hlt:m<bd
      ·have CB:=A99 w.heap.size g cap (L.map JT.of) (by rw[Aqs,HLN.out];omega) (fun u hu=>by
        obtain⟨v,hv,rfl⟩:=Aq5.1 hu
        exact(HK.out.T.own v hv).Aj5) wr (Ce.jin (by rw[HLN.out];exact HK.out.T))
       rw[Aqs,HLN.out]at CB;replace CB:=Aoy CB
       go_wp2_with fail
       refine CB.out.mono ?_
       rintro e w3 ⟨⟨b,rfl,hb1,hb2,hbj⟩,hd⟩;have HBJ:=Aoy hbj;clear hbj;have HK3:=Aoy (HK.out.step hd);clear CB hd HK
       by_cases hneg:b<0
       ·have e1:decide (b<0)=true:=Apj hneg;have HEN:=Aoy (HV.out.ended (.inr (by have:=HBJ.out;rwa [show b=-1 by omega]at this)))
        clear hneg hb1 hb2
        have CT:=Xj w.heap.size g cap (L.map JT.of) (by rw[Aqs,HLN.out];omega) (fun u hu=>by
         obtain⟨v,hv,rfl⟩:=Aq5.1 hu
         exact(HK3.out.T.own v hv).Aj5) (some ⟨gp,0,none⟩) ln cp w3 (Ce.jin (by rw[HLN.out];exact HK3.out.T))
        rw[Aqs,HLN.out]at CT;unfold Yu at CT;obtain⟨pz,hp1⟩:∃pz,pz=Hu 1 ((L.map JT.of).map fun t=>(t.deep,t.ys)):=⟨_,rfl⟩
        obtain⟨qz,hp2⟩:∃qz,qz=Hu (-1) ((L.map JT.of).map fun t=>(t.deep,t.ys)):=⟨_,rfl⟩
        obtain⟨rz,hp3⟩:∃rz,rz=Hu 0 ((L.map JT.of).map fun t=>(t.deep,t.ys)):=⟨_,rfl⟩
        rw[<-hp1,<-hp2,<-hp3]at CT;have hpz:=Aoy (And.intro hp1 (And.intro hp2 hp3));clear hp1 hp2 hp3;replace CT:=Aoy CT
        go_wp2_with fail
        refine CT.out.mono ?_
        rintro e wz ⟨hdz,gz,capz,rfl,hoz⟩;have HKZ:=Aoy (HK3.out.step hdz);have HOZ:=Aoy (G3 hoz HK3.out.R.old.size);obtain⟨r0,r1,r2,r3,r4⟩:=HKZ.out.R.Ad;obtain⟨f0,f1,f2,f3,f4⟩:=HKZ.out.R.Hk;have hSZ:=HKZ.out.S;rw[HLN.out]at hSZ;have HSZ:=Aoy hSZ;clear hSZ CT hdz hoz
        go_wp2
        exact Ap4 (v:=.tuple #[.agg #[.slice (some ⟨gp,0,none⟩) ln cp,.slice (some ⟨gz,0,none⟩) ln capz,.int .i64 pz,.int .i64 qz,.int .i64 rz],.bool true]) (by simp[results,Tryz.f7,go_sem,r0,r1,r2,r3,r4]) rfl (A31 HMKP.out HCC.out hbd HV.out HEN.out HLN.out (by omega) (by omega) HKZ.out HSZ.out HOZ.out hpz.out)
       ·obtain⟨k,rfl⟩:=Aqg (show 0<=b by omega)
        have e1:decide ((k:Int)<0)=false:=Apy hneg;have hk:k<ln:=by omega
        obtain⟨tk,htk⟩:∃tk,L[k]?=some tk:=⟨_,Apd (by have:=HLN.out;omega)⟩
        have TK:=HK3.out.T.own tk (Aq7 htk);obtain⟨p0,p1,p2,p3,p4⟩:=Ce.cells (L:=L) (by rw[HLN.out];exact HK3.out.T) htk
        have hpl:=TK.pl;obtain⟨dk,hdk⟩:=Aqg (Bs hpl).1;rw[hdk]at p1 hpl;obtain⟨sk,hsk⟩:∃sk,P[k]?=some sk:=⟨_,Apd (by have:=HLN.out;have:=HK3.out.Aop;omega)⟩
        have hatk:J7 c sk.toList tk:=HV.out.at' hsk htk;have HATK:=Aoy hatk;have HPK:=Aoy (HV.out.pick HBJ.out hsk);obtain⟨dk',hdk',hspl⟩:=A5v A4 tk w.heap.size w3 TK (by have:=hatk.Ca;rwa [HCC.out]at this)
        obtain rfl:dk=dk':=by omega
        have HDK:=Aoy hdk'
        have CS:Hid (Calls Vp.prog 21 #[.agg #[.complex .f32 tk.cx tk.cy,.int .i64 dk,.int .i64 tk.size,.slice (some ⟨tk.gs,0,none⟩) tk.n tk.cs,.slice (some ⟨tk.gm,0,none⟩) tk.n tk.cm],.int .i64 A4] w3 (Lc w3 tk.cx tk.cy dk tk.size A4)):=by
         have:=hspl;rw[show tk.cells.toArray=#[.complex .f32 tk.cx tk.cy,.int .i64 tk.deep,.int .i64 tk.size,.slice (some ⟨tk.gs,0,none⟩) tk.n tk.cs,.slice (some ⟨tk.gm,0,none⟩) tk.n tk.cm]from rfl,hdk']at this
         exact this
        clear hspl hatk hdk';have hmlt:=hlt;clear hneg TK htk hpl hdk hb1 hb2
        go_wp2_with fail
        refine CS.out.mono ?_
        intro e w4 h4;obtain⟨v4,ok,rfl,hno,hok,hd4⟩:=h4.Aol;have HK4:=Aoy (HK3.out.step hd4);clear CS h4 p0 p1 p2 p3 p4
        cases ok with
        | false =>
          obtain⟨r0,r1,r2,r3,r4⟩:=HK4.out.R.Ad;obtain⟨f0,f1,f2,f3,f4⟩:=HK4.out.R.Hk
          have HNOK:Hid (¬K1 cx cy d0 size A4 bd):=fun⟨d0',bd',G,e1,e2,_,_,h⟩=>by
           obtain rfl:d0=d0':=by omega
           obtain rfl:bd=bd':=by omega
           rw[<-HCC.out]at h;have hsz:tk.size=c.s:=HATK.out.size
           exact(HV.out.fail hmlt HPK.out (fun hs=>hno rfl (by have:=(HATK.out.sp HDK.out).1 hs;rwa [<-hsz]at this))).det (At4 _) h
          clear hok hd4 hno
          go_wp2
          exact Ap4 (v:=.tuple #[.agg #[.slice none 0 0,.slice none 0 0,.int .i64 0,.int .i64 0,.int .i64 0],.bool false]) (by simp[results,Tryz.f7,go_sem,r0,r1,r2,r3,r4]) rfl ⟨Ly HK4.out.R.old (Ap0 _) _ _ _ _ _,.inl ⟨rfl,HNOK.out⟩⟩
        | true =>
          obtain⟨L4,h4,hl4,hv4s⟩:=hok rfl;have hszk:tk.size=c.s:=HATK.out.size;have hmostk:c.A4=A4:=by rw[HCC.out]
          have hsplk:L9 tk.cx tk.cy dk c.s:=fun j hj=>by
           obtain⟨u,hu⟩:∃u,L4[j]?=some u:=⟨_,Apd (by omega)⟩
           obtain⟨q1,q2,q3,q4,q5⟩:=hv4s j u hu;obtain⟨a1,a2,a3,a4,b1,b2,b3,-,-⟩:=q5;have hmm:Wi u.cx u.cy u.deep u.size:=⟨a1,a2,a3,a4,b1,b2,b3⟩;rw[q1,q2,q3,q4,hszk]at hmm
           exact hmm
          have HV4:Hid (PV c bd (m+1) (L.take k++L4++L.drop (k+1)) (P.take k++[sk ++⟨#[48]⟩,sk ++⟨#[49]⟩,sk ++⟨#[50]⟩,sk ++⟨#[51]⟩]++P.drop (k+1))) :=
           HV.out.next hmlt hsk HPK.out ((HATK.out.sp HDK.out).2 hsplk) (Acd sk) hl4 fun j u hu hj=>by
            obtain⟨q1,q2,q3,q4,q5⟩:=hv4s j u hu;rw[hszk]at q1 q2 q4;rw[<-hmostk]at q5
            exact HATK.out.kid HDK.out hsplk hj q1 q2 q3 q4 q5
          clear hno hv4s hsplk hszk hmostk;obtain⟨g4,cap4,hv4,-,hcap4⟩:=ownsRow_form h4.row (by omega)
          rw[hl4]at hv4 hcap4;subst hv4;have H4:=Aoy (h4.mono (B':=w.heap.size) (by have:=HK3.out.R.old.size;omega))
          have HL4:=Aoy hl4;clear hok h4 hd4 HK3;obtain⟨sz,hsz⟩:∃sz,sk.size=sz:=⟨_,rfl⟩;have hss:sz<=30:=by have:=HK4.out.sz sk (Aq7 hsk);omega
          have hcs:w4.cell? ⟨gp,k,none⟩=some (.string sk):=by
           have S4:=HK4.out.S;rw[HLN.out]at S4;have h1:=S4.cellAt k (by omega)
           rw[h1,Apv,hsk];rfl
          have HSK:=Aoy hsk;have b5:(k:Int)<ln:=by omega
          have b6:(0:Int)<=k:=by omega
          have A0:=fun W:World=>Aug (P:=Vp.prog) W sk ⟨#[48]⟩ (by rw[hsz];show sz+1<=_;omega)
          have A1:=fun W:World=>Aug (P:=Vp.prog) W sk ⟨#[49]⟩ (by rw[hsz];show sz+1<=_;omega)
          have A2:=fun W:World=>Aug (P:=Vp.prog) W sk ⟨#[50]⟩ (by rw[hsz];show sz+1<=_;omega)
          have A3:=fun W:World=>Aug (P:=Vp.prog) W sk ⟨#[51]⟩ (by rw[hsz];show sz+1<=_;omega)
          have HZS:Hid (∀c:UInt8,(sk ++⟨#[c]⟩:ByteArray).size<=m+1):=fun c=>by
           have h1:=HK4.out.sz sk (Aq7 hsk);rw[ByteArray.size_append]
           show sk.size+1<=_
           omega
          have HZ4:=Aoy (And.intro (HZS.out 48) (And.intro (HZS.out 49) (And.intro (HZS.out 50) (HZS.out 51))));generalize sk ++⟨#[48]⟩=s0 at *;generalize sk ++⟨#[49]⟩=s1 at *;generalize sk ++⟨#[50]⟩=s2 at *;generalize sk ++⟨#[51]⟩=s3 at *;clear hl4 hsk hsz HZS
          go_upto_region 14 with fail
          go_region_held3 (fun w'=>w'.cell? ⟨gp,k,none⟩=some (.string sk)) (go_keep) (fail)
          have X5:=(A9.new w4 #[.string s0,.string s1,.string s2,.string s3] 9).step ((Au.refl _).drew.below _);have hd5:Below w4.heap.size w4 (w4.alloc (.cells #[.string s0,.string s1,.string s2,.string s3] 9)).drew:=X5.old;have HK5:=Aoy (HK4.out.step hd5);have H45:=Aoy (H4.out.step hd5);have HX5:=Aoy X5;clear X5 hd5 HK4 H4 hcs A0 A1 A2 A3
          go_upto_region 15 with fail
          generalize (w4.alloc (.cells #[.string s0,.string s1,.string s2,.string s3] 9)).drew=w5 at *;generalize w4.heap.size=nb at *;have hcap:ln<=cap:=S8 (by have:=HLN.out;omega) HK5.out.T.row
          have hcp:ln<=cp:=S8 (by have:=HLN.out;omega) HK5.out.S
          have i1:(k:Int)<=cap:=by omega
          have i2:(k:Int)+1<=ln:=by omega
          have i3:(0:Int) <=(k:Int)+1:=by omega
          have i4:(ln:Int)<=cap:=by omega
          have i5:IntKind.i64.wrap ((k:Int)+1)=(k:Int)+1:=Aq4 _ (by omega)
          have j1:(k:Int)<=cp:=by omega
          have j4:(ln:Int)<=cp:=by omega
          by_cases hcz:cap=k+1
          case' pos =>
           have HLE0:Hid (ln<=k+1):=(by omega:ln<=k+1)
           replace hcz:k+1=cap:=hcz.symm;have HB1:Hid ((Ac (L.take k)).length=k*5 /\(∀W,Below w5.heap.size w5 W->∀j u,(Ac (L.take k))[j]?=some u->W.cell? ((⟨g,0,none⟩:Addr).add j)=some u)/\∀u∈Ac (L.take k),u.oneCell'=true):=A84 HK5.out.T HLN.out (by omega)
           have HB2:Hid ((Ac L4).length=4*5 /\(∀W,Below w5.heap.size w5 W->∀j u,(Ac L4)[j]?=some u->W.cell? ((⟨g4,0,none⟩:Addr).add j)=some u)/\∀u∈Ac L4,u.oneCell'=true):=Aea H45.out HL4.out;have HB3:Hid ((Ac (L.drop (k+1))).length=0*5 /\(∀W,Below w5.heap.size w5 W->∀j u,(Ac (L.drop (k+1)))[j]?=some u->W.cell? ((⟨g,0,none⟩:Addr).add j)=some u)/\∀u∈Ac (L.drop (k+1)),u.oneCell'=true):=(by have e0:ln-(k+1)=0:=(by omega);have h0:=G9 (g:=g) (w:=w5) HLN.out HLE0.out;rwa [e0]at h0)
          case' neg =>
           have HB1:Hid ((Ac (L.take k)).length=k*5 /\(∀W,Below w5.heap.size w5 W->∀j u,(Ac (L.take k))[j]?=some u->W.cell? ((⟨g,0,none⟩:Addr).add j)=some u)/\∀u∈Ac (L.take k),u.oneCell'=true):=A84 HK5.out.T HLN.out (by omega)
           have HB2:Hid ((Ac L4).length=4*5 /\(∀W,Below w5.heap.size w5 W->∀j u,(Ac L4)[j]?=some u->W.cell? ((⟨g4,0,none⟩:Addr).add j)=some u)/\∀u∈Ac L4,u.oneCell'=true):=Aea H45.out HL4.out;have HB3:Hid ((Ac (L.drop (k+1))).length=(ln-(k+1))*5 /\(∀W,Below w5.heap.size w5 W->∀j u,(Ac (L.drop (k+1)))[j]?=some u->W.cell? ((⟨g,(k+1)*5,none⟩:Addr).add j)=some u)/\∀u∈Ac (L.drop (k+1)),u.oneCell'=true):=Agi HK5.out.T HLN.out (by omega)
          all_goals
           go_region_law (first
            |(refine Cv _ (by rfl) _ _ _ (by rfl) w5.heap.size 35 iT _ 5 72 (Vp.Dw Tryz.underlying56) hiT hzT0 hzT1 hzT2 rfl (by omega) _ 0 [] (by rfl) (Ab (Asi (e:=35) (size:=5) (base:=w5.heap.size) w5 #[] 0 (Ap0 _) (by decide) rfl) ((Au.refl _).drew.below _)) ⟨g,0,none⟩ k cap (Ac (L.take k)) (by rfl) HB1.out.1 (HB1.out.2.1 _ (((Aph _ _).alloc (Ap0 _) _).drew)) HB1.out.2.2 (by unfold maxLen;omega) (by omega) (by simp) ?_
              intro v1 w6 hown1 hg1;have B1:=Aoy ((((Aph w5.heap.size w5).alloc (Ap0 _) (.cells #[] 35)).drew).grown hg1 (by simp) (fun j hj=>by simp only[Value.ownBlock,Aqj]at hj;omega)))
            |(refine Cv _ (by rfl) _ _ _ (by rfl) w5.heap.size 35 iT _ 5 72 (Vp.Dw Tryz.underlying56) hiT hzT0 hzT1 hzT2 rfl (by omega) _ (0+k) _ (by rfl) hown1 ⟨g4,0,none⟩ 4 cap4 (Ac L4) (by rfl) HB2.out.1 (HB2.out.2.1 _ B1.out) HB2.out.2.2 (by unfold maxLen;omega) (by omega) B1.out.size ?_
              intro v2 w7 hown2 hg2;have B2:=Aoy (B1.out.grown hg2 B1.out.size (fun j hj=>(hown1.lt j hj).1)))
            |(refine Cv _ (by rfl) _ _ _ (by rfl) w5.heap.size 35 iT _ 5 72 (Vp.Dw Tryz.underlying56) hiT hzT0 hzT1 hzT2 rfl (by omega) _ (0+k+4) _ (by rfl) hown2 _ _ _ (Ac (L.drop (k+1))) (by rfl) HB3.out.1 (HB3.out.2.1 _ B2.out) HB3.out.2.2 (by unfold maxLen;omega) (by omega) B2.out.size ?_
              intro lv9 wl hown3 hg3;have B3:=Aoy (B2.out.grown hg3 B2.out.size (fun j hj=>(hown2.lt j hj).1))
              have O3:=Aoy hown3;clear hown1 hown2 hown3 hg1 hg2 hg3 B1 B2))
           all_goals
            have O4:=O3.out
            try rw[show 0+k+4+0=0+k+4 +(ln-(k+1)) by omega]at O4
            have HT8:Hid (Ce w.heap.size (L.take k++L4++L.drop (k+1)) lv9 wl):=Aj2 HK5.out.T H45.out B3.out HLN.out HL4.out (by omega) (by have:=HK5.out.R.old.size;omega) O4
            have HLL:Hid ((L.take k++L4++L.drop (k+1)).length=ln+3):=by
             show _=_
             rw[Apz,Apz,Arr,List.length_drop,HL4.out,HLN.out,As0 (by omega)];omega
            have HSR:Hid (wl.ownsRow w.heap.size 9 1 (.slice (some ⟨gp,0,none⟩) ln cp) ln (P.map Value.string)):=by
             have:=Ab HK5.out.S B3.out
             rwa [HLN.out]at this
            have HRR:=Aoy (HK5.out.R.step B3.out);have HSZ:=Aoy HK5.out.sz;have HLIM:Hid (ln<=1+3*m):=by have:=HK5.out.lim;rwa [HLN.out]at this
            have HX8:=Aoy (HX5.out.step B3.out);have hrow:=HT8.out.row;rw[HLL.out]at hrow;obtain⟨gl,capl,hv3,-,-⟩:=ownsRow_form hrow (by omega)
            clear O4 hrow HB1 HB2 HB3 HK5 HX5 H45 B3 O3 hcz;subst hv3
            go_upto_region 16 with fail
            by_cases hcq:cp=k+1
            case' pos =>
             have HLE:Hid (ln<=k+1):=(by omega:ln<=k+1)
             replace hcq:k+1=cp:=hcq.symm;have HB1:Hid (((P.map Value.string).take k).length=k*1 /\(∀W,Below wl.heap.size wl W->∀j u,((P.map Value.string).take k)[j]?=some u->W.cell? ((⟨gp,0,none⟩:Addr).add j)=some u)/\∀u∈(P.map Value.string).take k,u.oneCell'=true):=A80 HSR.out (by omega) (Up P)
             have HB2:Hid (([.string s0,.string s1,.string s2,.string s3]:List Value).length=4*1 /\(∀W,Below wl.heap.size wl W->∀j u,([.string s0,.string s1,.string s2,.string s3]:List Value)[j]?=some u->W.cell? ((⟨nb,0,none⟩:Addr).add j)=some u)/\∀u∈([.string s0,.string s1,.string s2,.string s3]:List Value),u.oneCell'=true):=A7z HX8.out;have HB3:Hid (((P.map Value.string).drop (k+1)).length=0*1 /\(∀W,Below wl.heap.size wl W->∀j u,((P.map Value.string).drop (k+1))[j]?=some u->W.cell? ((⟨gp,0,none⟩:Addr).add j)=some u)/\∀u∈(P.map Value.string).drop (k+1),u.oneCell'=true):=(by have e0:ln-(k+1)=0:=(by omega);have h0:=Aiv (g:=gp) (w:=wl) (show(P.map Value.string).length=ln by have:=HSR.out.1;rwa [Ata]at this) HLE.out;rwa [e0]at h0)
            case' neg =>
             have HB1:Hid (((P.map Value.string).take k).length=k*1 /\(∀W,Below wl.heap.size wl W->∀j u,((P.map Value.string).take k)[j]?=some u->W.cell? ((⟨gp,0,none⟩:Addr).add j)=some u)/\∀u∈(P.map Value.string).take k,u.oneCell'=true):=A80 HSR.out (by omega) (Up P)
             have HB2:Hid (([.string s0,.string s1,.string s2,.string s3]:List Value).length=4*1 /\(∀W,Below wl.heap.size wl W->∀j u,([.string s0,.string s1,.string s2,.string s3]:List Value)[j]?=some u->W.cell? ((⟨nb,0,none⟩:Addr).add j)=some u)/\∀u∈([.string s0,.string s1,.string s2,.string s3]:List Value),u.oneCell'=true):=A7z HX8.out;have HB3:Hid (((P.map Value.string).drop (k+1)).length=(ln-(k+1))*1 /\(∀W,Below wl.heap.size wl W->∀j u,((P.map Value.string).drop (k+1))[j]?=some u->W.cell? ((⟨gp,k+1,none⟩:Addr).add j)=some u)/\∀u∈(P.map Value.string).drop (k+1),u.oneCell'=true):=Agc HSR.out (by omega) (Up P)
            all_goals
             go_region_law (first
              |(refine Cv _ (by rfl) _ _ _ (by rfl) wl.heap.size 9 iS _ 1 16 (Vp.Dw Tryz.underlying26) hiS hzS0 hzS1 hzS2 rfl (by omega) _ 0 [] (by rfl) (Ab (Asi (e:=9) (size:=1) (base:=wl.heap.size) wl #[] 0 (Ap0 _) (by decide) rfl) ((Au.refl _).drew.below _)) ⟨gp,0,none⟩ k cp ((P.map Value.string).take k) (by rfl) HB1.out.1 (HB1.out.2.1 _ (((Aph _ _).alloc (Ap0 _) _).drew)) HB1.out.2.2 (by unfold maxLen;omega) (by omega) (by simp) ?_
                intro v1 w6 hown1 hg1;have B1:=Aoy ((((Aph wl.heap.size wl).alloc (Ap0 _) (.cells #[] 9)).drew).grown hg1 (by simp) (fun j hj=>by simp only[Value.ownBlock,Aqj]at hj;omega)))
              |(refine Cv _ (by rfl) _ _ _ (by rfl) wl.heap.size 9 iS _ 1 16 (Vp.Dw Tryz.underlying26) hiS hzS0 hzS1 hzS2 rfl (by omega) _ (0+k) _ (by rfl) hown1 ⟨nb,0,none⟩ 4 4 ([.string s0,.string s1,.string s2,.string s3]) (by rfl) HB2.out.1 (HB2.out.2.1 _ B1.out) HB2.out.2.2 (by unfold maxLen;omega) (by omega) B1.out.size ?_
                intro v2 w7 hown2 hg2;have B2:=Aoy (B1.out.grown hg2 B1.out.size (fun j hj=>(hown1.lt j hj).1)))
              |(refine Cv _ (by rfl) _ _ _ (by rfl) wl.heap.size 9 iS _ 1 16 (Vp.Dw Tryz.underlying26) hiS hzS0 hzS1 hzS2 rfl (by omega) _ (0+k+4) _ (by rfl) hown2 _ _ _ ((P.map Value.string).drop (k+1)) (by rfl) HB3.out.1 (HB3.out.2.1 _ B2.out) HB3.out.2.2 (by unfold maxLen;omega) (by omega) B2.out.size ?_
                intro v3 w8 hown3 hg3;have B3:=Aoy (B2.out.grown hg3 B2.out.size (fun j hj=>(hown2.lt j hj).1))
                have O3:=Aoy hown3;clear hown1 hown2 hown3 hg1 hg2 hg3 B1 B2))
             all_goals
              have hpl:P.length=ln:=by have:=HSR.out.1;simpa using this
              have hs8:=HRR.out.old.size;have HT9:=Aoy (HT8.out.step B3.out);have HR9:=Aoy (HRR.out.step B3.out)
              have hS9:w8.ownsRow w.heap.size 9 1 v3 (ln+3) ((P.take k++[s0,s1,s2,s3]++P.drop (k+1)).map Value.string):=by
               have h1:=G3 O3.out (show w.heap.size<=wl.heap.size from hs8)
               first|rw[show 0+k+4+0=ln+3 by have:=HLE.out;omega]at h1|rw[show 0+k+4 +(ln-(k+1))=ln+3 by omega]at h1
               rw[Aq2,Aq2,List.map_take,List.map_drop]
               exact h1
              obtain⟨g9,cap9,rfl,-,-⟩:=ownsRow_form hS9 (by omega)
              have HS9:=Aoy hS9;clear hS9 HB1 HB2 HB3 HSR HX8 B3 O3 HT8 HRR
              go_wp2
              go_roundw
              case rel=>exact⟨m+1,ln+3,gl,capl,g9,cap9,L.take k++L4++L.drop (k+1),P.take k++[s0,s1,s2,s3]++P.drop (k+1),by omega,by go_num,rfl,rfl,HLL.out,HV4.out,⟨HR9.out,by rw[<-HLL.out]at HT9 ⊢;exact HT9.out,by rw[HLL.out];exact HS9.out,fun u hu=>by
               rcases Aq9.1 hu with hu|hu
               ·rcases Aq9.1 hu with hu|hu
                ·have:=HSZ.out u (At1 hu);omega
                ·simp only[Aqe,Aqc,As6]at hu
                 rcases hu with rfl|rfl|rfl|rfl
                 ·exact HZ4.out.1
                 ·exact HZ4.out.2.1
                 ·exact HZ4.out.2.2.1
                 ·exact HZ4.out.2.2.2
               ·have:=HSZ.out u (At2 hu);omega,by rw[HLL.out];have:=HLIM.out;omega,by rw[HLL.out];omega⟩⟩
              case measure=>simp[intOf];omega
      ·skip
       have HEN:=Aoy (HV.out.ended (.inl (by omega)))
       have CT:=Xj w.heap.size g cap (L.map JT.of) (by rw[Aqs,HLN.out];omega) (fun u hu=>by
        obtain⟨v,hv,rfl⟩:=Aq5.1 hu
        exact(HK.out.T.own v hv).Aj5) (some ⟨gp,0,none⟩) ln cp wr (Ce.jin (by rw[HLN.out];exact HK.out.T))
       rw[Aqs,HLN.out]at CT;unfold Yu at CT;obtain⟨pz,hp1⟩:∃pz,pz=Hu 1 ((L.map JT.of).map fun t=>(t.deep,t.ys)):=⟨_,rfl⟩
       obtain⟨qz,hp2⟩:∃qz,qz=Hu (-1) ((L.map JT.of).map fun t=>(t.deep,t.ys)):=⟨_,rfl⟩
       obtain⟨rz,hp3⟩:∃rz,rz=Hu 0 ((L.map JT.of).map fun t=>(t.deep,t.ys)):=⟨_,rfl⟩
       rw[<-hp1,<-hp2,<-hp3]at CT;have hpz:=Aoy (And.intro hp1 (And.intro hp2 hp3));clear hp1 hp2 hp3;replace CT:=Aoy CT
       go_wp2_with fail
       refine CT.out.mono ?_
       rintro e wz ⟨hdz,gz,capz,rfl,hoz⟩;have HKZ:=Aoy (HK.out.step hdz);have HOZ:=Aoy (G3 hoz HK.out.R.old.size);obtain⟨r0,r1,r2,r3,r4⟩:=HKZ.out.R.Ad;obtain⟨f0,f1,f2,f3,f4⟩:=HKZ.out.R.Hk;have hSZ:=HKZ.out.S;rw[HLN.out]at hSZ;have HSZ:=Aoy hSZ;clear hSZ CT hdz hoz
       go_wp2
       exact Ap4 (v:=.tuple #[.agg #[.slice (some ⟨gp,0,none⟩) ln cp,.slice (some ⟨gz,0,none⟩) ln capz,.int .i64 pz,.int .i64 qz,.int .i64 rz],.bool true]) (by simp[results,Tryz.f7,go_sem,r0,r1,r2,r3,r4]) rfl (A31 HMKP.out HCC.out hbd HV.out HEN.out HLN.out (by omega) (by omega) HKZ.out HSZ.out HOZ.out hpz.out)
end
section
open Go.RowKit Flo
attribute [local go_sem ↓] Go.wp_at_zero Go.wp_at_succ
attribute [local go_sem] A7 A5
theorem toList_inj {a b:ByteArray}(h:a.toList=b.toList):a=b:=by
 rw[toList_data,toList_data]at h;have h2:a.data=b.data:=Array.toList_inj.1 h
 cases a
 cases b
 cases h2
 rfl
theorem A3v:∀{P Q:List ByteArray},P.map ByteArray.toList=Q.map ByteArray.toList->P=Q
 | [],[],_=>rfl
 | [],_ :: _,h=>by cases h
 | _ :: _,[],h=>by cases h
 | a :: P,b :: Q,h=>by
   rw[Aqo,Aqo]at h;injection h with h1 h2
   rw[toList_inj h1,A3v h2]
theorem Hm.none {v v':World}{cx cy:Nat}{deep size A4 budget:Int}{f:Ending}(h:¬K1 cx cy deep size A4 budget){R:List (List UInt8)->Prop}(k:Hm v cx cy deep size A4 budget R f v'):f=.returned A0t/\Below v.heap.size v v':=by
 obtain⟨hb,⟨k1,k2⟩ |⟨d0',bd',M,H,f1,f2,k3,k4,k5,k6,k7,k8⟩⟩:=k
 ·exact⟨k1,hb⟩
 ·exact absurd ⟨d0',bd',H,f1,f2,k3,k4,k7⟩ h
theorem Hm.told {v v':World}{cx cy:Nat}{deep size A4 budget:Int}{f:Ending}{d0 bd:Nat}{L G:List (List UInt8)}(e1:deep=d0)(e2:budget=bd)(h3:bd<=30)(h4:Wi cx cy deep size)(h6:L.Pairwise (fun a b=>Op.bytesLess b a=false))(h7:(D5 ⟨size,A4,cx,cy,d0⟩).Eu bd [[]] (some G))(h8:L.Perm G)
 (k:Hm v cx cy deep size A4 budget (fun L=>L.Pairwise Left) f v'):Aax ⟨size,A4,cx,cy,d0⟩ v.heap.size L f v'/\Below v.heap.size v v':=by
 obtain⟨hb,⟨k1,k2⟩ |⟨d0',bd',M,H,f1,f2,k3,k4,k5,k6,k7,k8⟩⟩:=k
 ·exact absurd ⟨d0,bd,G,e1,e2,h3,h4,h7⟩ k2
 ·obtain rfl:d0=d0':=by omega
  obtain rfl:bd=bd':=by omega
  have hd:E9 (some G) (some H):=h7.det (At4 _) k7;have hp:M.Perm L:=k8.trans (List.Perm.symm (h8.trans hd));obtain rfl:=Kf hp k6 h6
  exact⟨k5,hb⟩
end
namespace Cov
def Le (x y r:Rat):Prop:=0<=r/\x*x+y*y<=r*r
theorem E0 (x:Rat):0<=x*x:=by
 rcases Rat.le_total (a:=0) (b:=x)with h|h
 ·exact Rat.mul_nonneg h h
 ·have:=Rat.mul_nonneg (a:=-x) (b:=-x) (by grind) (by grind)
  grind
theorem Ach {x r:Rat}(hr:0<=r)(h:x*x<=r*r):x<=r:=by
 rcases Rat.le_total (a:=x) (b:=r)with g|g
 ·exact g
 ·have h1:=Aq6 g hr;have h2:=Rat.mul_le_mul_of_nonneg_right g (by grind:0<=x)
  have h3:(x-r) *(x+r)<=0:=by grind
  have h4:0 <=(x-r) *(x-r):=E0 _
  by_cases hx:x=r
  ·grind
  ·have h5:0 <(x-r):=by grind
   have h6:0<x+r:=by grind
   have:=Rat.mul_pos h5 h6
   grind
theorem Le.dot {x y r u v s:Rat}(h:Le x y r)(g:Le u v s):x*u+y*v<=r*s:=by
 obtain⟨h1,h2⟩:=h;obtain⟨g1,g2⟩:=g
 refine Ach (Rat.mul_nonneg h1 g1) ?_
 have a:=E0 (x*v-y*u);have b:=Rat.mul_le_mul_of_nonneg_right h2 (by have:=E0 u;have:=E0 v;grind:0<=u*u+v*v)
 have c:=Aq6 g2 (E0 r)
 grind
theorem Le.add {x y r u v s:Rat}(h:Le x y r)(g:Le u v s):Le (x+u) (y+v) (r+s):=by
 have d:=h.dot g;obtain⟨h1,h2⟩:=h;obtain⟨g1,g2⟩:=g
 exact⟨by grind,by grind⟩
theorem Le.mul {x y r u v s:Rat}(h:Le x y r)(g:Le u v s):Le (x*u-y*v) (x*v+y*u) (r*s):=by
 obtain⟨h1,h2⟩:=h;obtain⟨g1,g2⟩:=g
 refine⟨Rat.mul_nonneg h1 g1,?_⟩
 have b:=Rat.mul_le_mul_of_nonneg_right h2 (by have:=E0 u;have:=E0 v;grind:0<=u*u+v*v)
 have c:=Aq6 g2 (E0 r)
 grind
theorem Le.mono {x y r s:Rat}(h:Le x y r)(g:r<=s):Le x y s:=by
 obtain⟨h1,h2⟩:=h
 refine⟨by grind,?_⟩
 have a:=Aq6 g h1;have b:=Rat.mul_le_mul_of_nonneg_right g (by grind:0<=s)
 grind
theorem Le.small {x y:Rat}{e:Rat}(h1:0<=x)(h2:x<=e)(h3:0<=y)(h4:y<=e):Le x y (2*e):=by
 refine⟨by grind,?_⟩
 have a:=Aq6 h2 h1;have b:=Rat.mul_le_mul_of_nonneg_right h2 (by grind:0<=e)
 have c:=Aq6 h4 h3;have d:=Rat.mul_le_mul_of_nonneg_right h4 (by grind:0<=e)
 have:=E0 e
 grind
def isq (n g:Nat):Nat:=Nat.succ (Nat.div (Nat.add (Nat.succ g) (Nat.div n (Nat.succ g))) 2)
noncomputable def gue (a b:Nat):Nat:=Bool.rec (Nat.add a (Nat.div (Nat.mul 3 b) 8)) (Nat.add b (Nat.div (Nat.mul 3 a) 8)) (Nat.ble a b)
noncomputable def sh (a:Int):Int:=Int.rec (fun n=>Int.ofNat (Nat.shiftRight n 24)) (fun n=>Int.negSucc (Nat.shiftRight n 24)) a
noncomputable def S6 (cx cy:Int)(rho:Nat)(n:Nat):Int->Int->Int->Int->Nat->Bool :=
 Nat.rec (fun _ _ _ _ _=>true) (fun _ ih X Y P Q R =>
  let ax:=X.natAbs
  let ay:=Y.natAbs
  let xx:=Nat.mul ax ax
  let yy:=Nat.mul ay ay
  let nz:=Nat.add xx yy
  let s:=isq nz (gue ax ay)
  let ap:=P.natAbs
  let aq:=Q.natAbs
  let nd:=Nat.add (Nat.mul ap ap) (Nat.mul aq aq)
  let s2:=isq nd (gue ap aq)
  let A:=Nat.succ (Nat.add (Nat.shiftRight (Nat.mul s2 rho) 24) R)
  Bool.rec false (Bool.rec false (Bool.rec false
   (ih (Int.add (sh (Int.subNatNat xx yy)) cx) (Int.add (sh (Int.mul 2 (Int.mul X Y))) cy) (Int.add (sh (Int.mul 2 (Int.sub (Int.mul X P) (Int.mul Y Q)))) 16777216) (sh (Int.mul 2 (Int.add (Int.mul X Q) (Int.mul Y P))))
    (Nat.add (Nat.add (Nat.shiftRight (Nat.add (Nat.mul (Nat.mul 2 s) R) (Nat.mul A A)) 24) (Nat.shiftRight rho 23)) 4))
   (Nat.ble (Nat.add s A) 33554432)) (Nat.ble nd (Nat.mul s2 s2))) (Nat.ble nz (Nat.mul s s))) n
theorem I7 {c b:Bool}:Bool.rec (motive:=fun _=>Bool) false b c=true↔c=true/\b=true:=by cases c<;>simp
theorem Lu (cx cy:Int)(rho n:Nat)(X Y P Q:Int)(R:Nat)(h:S6 cx cy rho (n+1) X Y P Q R=true):∃s s2:Nat,X*X+Y*Y<=s*s/\P*P+Q*Q<=s2*s2/\s +(((s2*rho) >>> 24)+R+1)<=33554432 /\
 S6 cx cy rho n (sh (X*X-Y*Y)+cx) (sh (2 *(X*Y))+cy) (sh (2 *(X*P-Y*Q))+16777216) (sh (2 *(X*Q+Y*P)))
  (((2*s*R +(((s2*rho) >>> 24)+R+1) *(((s2*rho) >>> 24)+R+1)) >>> 24) +(rho >>> 23)+4)=true:=by
 have h':=h;unfold S6 at h';simp only[I7]at h';obtain⟨h1,h2,h3,h4⟩:=h'
 refine⟨_,_,?_,?_,Aum h3,?_⟩
 ·have:=Aum h1
  have e:∀a:Int,(Nat.mul a.natAbs a.natAbs:Int)=a*a:=fun a=>by
   show((a.natAbs*a.natAbs:Nat):Int)=a*a
   exact Aux
  rw[<-e X,<-e Y]
  exact_mod_cast this
 ·have:=Aum h2
  have e:∀a:Int,(Nat.mul a.natAbs a.natAbs:Int)=a*a:=fun a=>by
   show((a.natAbs*a.natAbs:Nat):Int)=a*a
   exact Aux
  rw[<-e P,<-e Q]
  exact_mod_cast this
 ·have e:Int.subNatNat (Nat.mul X.natAbs X.natAbs) (Nat.mul Y.natAbs Y.natAbs)=X*X-Y*Y:=by
   rw[Int.subNatNat_eq_coe]
   show((X.natAbs*X.natAbs:Nat):Int)-((Y.natAbs*Y.natAbs:Nat):Int)=_
   rw[Aux,Aux]
  rw[e]at h4
  exact h4
theorem Al2 (a:Int):sh a=a / 16777216:=by
 cases a with
 | ofNat n =>
   show Int.ofNat (n >>> 24)=_
   rw[Nat.shiftRight_eq_div_pow]
   rfl
 | negSucc n =>
   show Int.negSucc (n >>> 24)=_
   rw[Nat.shiftRight_eq_div_pow]
   show Int.negSucc (n / 16777216)=_
   rw[Int.negSucc_ediv _ (by decide)]
   rfl
theorem Aet {c q a:Int}(h:c*q<=a):(c:Rat) *(q:Rat)<=a:=by exact_mod_cast h
theorem Aes {c q a:Int}(h:a<=c*q+c):(a:Rat) <=(c:Rat) *(q:Rat)+c:=by exact_mod_cast h
theorem big:((16777216:Int):Rat)=16777216:=rfl
theorem A0g (a:Int):16777216 *(sh a:Rat)<=a /\(a:Rat)<=16777216 *(sh a:Rat)+16777216:=by
 rw[Al2,<-big]
 exact⟨Aet (by omega),Aes (by omega)⟩
theorem A0h (a:Nat)(k:Nat)(c:Rat)(hc:c=((2^k:Nat):Rat)):(a:Rat)<=c *((a >>> k:Nat):Rat)+c:=by
 subst hc;rw[Nat.shiftRight_eq_div_pow]
 have h:a<=2^k *(a / 2^k)+2^k:=by
  have:=Asq a (2^k);have:=Ara a (Ap9 k)
  omega
 exact_mod_cast h
theorem Le.scale {x y r c:Rat}(hc:0<=c)(h:Le x y r):Le (c*x) (c*y) (c*r):=by
 obtain⟨h1,h2⟩:=h
 refine⟨Rat.mul_nonneg hc h1,?_⟩
 have:=Aq6 h2 (E0 c)
 grind
theorem Le.A87 {x y r c:Rat}(hc:0<c)(h:Le (c*x) (c*y) (c*r)):Le x y r:=by
 obtain⟨h1,h2⟩:=h;have h0:0<c*c:=Rat.mul_pos hc hc
 refine⟨Rat.le_of_mul_le_mul_left (a:=0) (b:=r) (c:=c) (by grind) hc,Rat.le_of_mul_le_mul_left (c:=c*c) (a:=x*x+y*y) (b:=r*r) (by grind) h0⟩
theorem Le.cast {x y r x' y' r':Rat}(h:Le x y r)(h1:x=x')(h2:y=y')(h3:r<=r'):Le x' y' r':=by
 subst h1 h2
 exact h.mono h3
section
variable {U X Y P Q X' Y' P' Q' s s2 R A R' rho cx cy tx ty zx zy zx' zy' ex ey ex' ey' : Rat} (hU : 0 < U)
include hU
theorem Se (hm:Le X Y s)(hd:Le P Q s2)
 (hX1:U*X'<=X*X-Y*Y+U*cx) (hX2:X*X-Y*Y+U*cx<=U*X'+U)
 (hY1:U*Y'<=2 *(X*Y)+U*cy) (hY2:2 *(X*Y)+U*cy<=U*Y'+U)
 (hP1:U*P'<=2 *(X*P-Y*Q)+U*U) (hP2:2 *(X*P-Y*Q)+U*U<=U*P'+U)
 (hQ1:U*Q'<=2 *(X*Q+Y*P)) (hQ2:2 *(X*Q+Y*P)<=U*Q'+U)
 (hA:s2*rho+U*R<=U*A) (hR:2*s*R+A*A+2*rho+2*U<=U*R')
 (ht:Le tx ty rho) (he:Le ex ey R)
 (h1:U*zx=U*X +(P*tx-Q*ty)+U*ex) (h2:U*zy=U*Y +(P*ty+Q*tx)+U*ey)
 (g1:U*zx'=zx*zx-zy*zy+U *(cx+tx)) (g2:U*zy'=2 *(zx*zy)+U *(cy+ty))
 (k1:U*zx'=U*X' +(P'*tx-Q'*ty)+U*ex') (k2:U*zy'=U*Y' +(P'*ty+Q'*tx)+U*ey') :
 Le zx zy (s+A)/\Le ex' ey' R':=by
 have a1:Le (X*X-Y*Y+U*cx-U*X') (2 *(X*Y)+U*cy-U*Y') (2*U):=Le.small (by grind) (by grind) (by grind) (by grind)
 have a2:Le (2 *(X*P-Y*Q)+U*U-U*P') (2 *(X*Q+Y*P)-U*Q') (2*U):=Le.small (by grind) (by grind) (by grind) (by grind)
 have a3:=a2.mul ht;have a4:=hm.mul he;have a5:Le (P*tx-Q*ty+U*ex) (P*ty+Q*tx+U*ey) (U*A):=((hd.mul ht).add (he.scale (Rat.le_of_lt hU))).mono hA;have a6:=a5.mul a5;have hU2:0<=U*U:=E0 U;have b:=(((a1.scale hU2).add (a3.scale (Rat.le_of_lt hU))).add ((a4.scale hU2).scale (c:=2) (by grind))).add a6
 have hR':=Aq6 hR hU2
 refine⟨Le.A87 hU (((hm.scale (Rat.le_of_lt hU)).add a5).cast (by grind) (by grind) (by grind)),Le.A87 (c:=U*U*U) (Rat.mul_pos (Rat.mul_pos hU hU) hU) (b.cast ?_ ?_ (by grind))⟩
 ·grind
 ·grind
end
def zr (a b:Rat):Nat->Rat×Rat
 | 0=>(0,0)
 | k+1=>(((zr a b k).1 *(zr a b k).1-(zr a b k).2 *(zr a b k).2) / 16777216+a,2 *((zr a b k).1 *(zr a b k).2) / 16777216+b)
theorem Aeh (a b:Rat)(k:Nat):16777216 *(zr a b (k+1)).1=(zr a b k).1 *(zr a b k).1-(zr a b k).2 *(zr a b k).2+16777216*a/\16777216 *(zr a b (k+1)).2=2 *((zr a b k).1 *(zr a b k).2)+16777216*b:=by
 show 16777216 *(((zr a b k).1 *(zr a b k).1-(zr a b k).2 *(zr a b k).2) / 16777216+a)=_/\16777216 *(2 *((zr a b k).1 *(zr a b k).2) / 16777216+b)=_
 generalize (zr a b k).1=x;generalize (zr a b k).2=y
 constructor<;>grind
def At (px py:Rat)(cx cy:Int)(k:Nat)(X Y P Q:Int)(R:Nat):Prop :=
 ∃ex ey:Rat,Le ex ey R/\16777216 *(zr px py k).1=16777216*X +(P *(px-cx)-Q *(py-cy))+16777216*ex/\16777216 *(zr px py k).2=16777216*Y +(P *(py-cy)+Q *(px-cx))+16777216*ey
theorem A6x {X Y:Int}{s:Nat}(h:X*X+Y*Y<=s*s):Le (X:Rat) (Y:Rat) (s:Rat):=by
 refine⟨by exact_mod_cast Aq1 s,?_⟩
 exact_mod_cast h
theorem A6w (n:Nat):(0:Rat) <=(n:Rat):=by exact_mod_cast Aq1 n
theorem At.step {px py:Rat}{cx cy:Int}{k:Nat}{X Y P Q:Int}{R rho n:Nat}(h:At px py cx cy k X Y P Q R)(ht:Le (px-cx) (py-cy) rho)(ho:S6 cx cy rho (n+1) X Y P Q R=true) :
 Le (zr px py k).1 (zr px py k).2 33554432/\∃(X' Y' P' Q':Int) (R':Nat),At px py cx cy (k+1) X' Y' P' Q' R'/\S6 cx cy rho n X' Y' P' Q' R'=true:=by
 obtain⟨s,s2,h1,h2,h3,h4⟩:=Lu cx cy rho n X Y P Q R ho;obtain⟨ex,ey,he,e1,e2⟩:=h;obtain⟨g1,g2⟩:=Aeh px py k;have r1:=A0g (X*X-Y*Y);have r2:=A0g (2 *(X*Y));have r3:=A0g (2 *(X*P-Y*Q));have r4:=A0g (2 *(X*Q+Y*P));have r5:=A0h (s2*rho) 24 16777216 rfl;generalize sh (X*X-Y*Y)=X1 at *;generalize sh (2 *(X*Y))=Y1 at *;generalize sh (2 *(X*P-Y*Q))=P1 at *;generalize sh (2 *(X*Q+Y*P))=Q1 at *;generalize (s2*rho) >>> 24=A1 at *;have r6:=A0h (2*s*R +(A1+R+1) *(A1+R+1)) 24 16777216 rfl;have r7:=A0h rho 23 8388608 rfl;generalize (2*s*R +(A1+R+1) *(A1+R+1)) >>> 24=R1 at *;generalize rho >>> 23=R2 at *;have q1:((X*X-Y*Y:Int):Rat)=X*X-Y*Y:=by simp
 have q2:((2 *(X*Y):Int):Rat)=2 *(X*Y):=by simp
 have q3:((2 *(X*P-Y*Q):Int):Rat)=2 *(X*P-Y*Q):=by simp
 have q4:((2 *(X*Q+Y*P):Int):Rat)=2 *(X*Q+Y*P):=by simp
 have q5:((s2*rho:Nat):Rat)=s2*rho:=by simp
 have q6:((2*s*R +(A1+R+1) *(A1+R+1):Nat):Rat)=2*s*R +(A1+R+1) *(A1+R+1):=by simp
 have q7:((s +(A1+R+1):Nat):Rat)<=33554432:=by exact_mod_cast h3
 rw[q1]at r1;rw[q2]at r2;rw[q3]at r3;rw[q4]at r4;rw[q5]at r5;rw[q6]at r6;have q8:((s +(A1+R+1):Nat):Rat)=s +(A1+R+1):=by simp
 rw[q8]at q7;have c1:((X1+cx:Int):Rat)=X1+cx:=by simp
 have c2:((Y1+cy:Int):Rat)=Y1+cy:=by simp
 have c3:((P1+16777216:Int):Rat)=P1+16777216:=by rw[Rat.intCast_add];rfl
 have c4:((R1+R2+4:Nat):Rat)=R1+R2+4:=by simp
 obtain⟨f1,f2⟩:=Se (U:=16777216) (X:=X) (Y:=Y) (P:=P) (Q:=Q) (X':=((X1+cx:Int):Rat)) (Y':=((Y1+cy:Int):Rat)) (P':=((P1+16777216:Int):Rat)) (Q':=Q1) (s:=s) (s2:=s2) (R:=R) (A:=A1+R+1) (R':=((R1+R2+4:Nat):Rat)) (rho:=rho) (cx:=cx) (cy:=cy) (tx:=px-cx) (ty:=py-cy)
  (zx:=(zr px py k).1) (zy:=(zr px py k).2) (zx':=(zr px py (k+1)).1) (zy':=(zr px py (k+1)).2) (ex:=ex) (ey:=ey)
  (ex':=(zr px py (k+1)).1-((X1+cx:Int):Rat)-(((P1+16777216:Int):Rat) *(px-cx)-Q1 *(py-cy)) / 16777216) (ey':=(zr px py (k+1)).2-((Y1+cy:Int):Rat)-(((P1+16777216:Int):Rat) *(py-cy)+Q1 *(px-cx)) / 16777216)
  (by decide) (A6x h1) (A6x h2) (by rw[c1];grind) (by rw[c1];grind) (by rw[c2];grind) (by rw[c2];grind) (by rw[c3];grind) (by rw[c3];grind) (by grind) (by grind) (by grind) (by rw[c4];have:=A6w R;grind) ht he e1 e2 (by rw[g1];grind) (by rw[g2];grind) (by grind) (by grind)
 exact⟨f1.mono q7,_,_,_,_,_,⟨_,_,f2,by grind,by grind⟩,h4⟩
theorem A7k {px py:Rat}{cx cy:Int}{rho:Nat}(ht:Le (px-cx) (py-cy) rho):∀{n k:Nat} {X Y P Q:Int} {R:Nat},At px py cx cy k X Y P Q R->S6 cx cy rho n X Y P Q R=true->∀i,i<n->Le (zr px py (k+i)).1 (zr px py (k+i)).2 33554432
 | 0,_,_,_,_,_,_,_,_,i,hi=>by omega
 | n+1,k,X,Y,P,Q,R,h,ho,i,hi=>by
   obtain⟨h1,X',Y',P',Q',R',h2,h3⟩:=h.step ht ho
   cases i with
   | zero=>exact h1
   | succ i =>
     have:=A7k ht h2 h3 i (by omega)
     rw[show k +(i+1)=k+1+i from by omega]
     exact this
noncomputable def sqL (l u:Int):Int:=Bool.rec (Bool.rec 0 (Int.mul u u) (decide (u<=0))) (Int.mul l l) (decide (0<=l))
theorem A55 (x:Int):0<=x*x:=by
 rcases Aro 0 x with k|k
 ·exact Aqt k k
 ·exact Int.mul_nonneg_of_nonpos_of_nonpos k k
theorem Adp (l u:Int):0<=sqL l u:=by
 unfold sqL
 cases decide (0<=l)
 ·cases decide (u<=0)
  ·exact Asu 0
  ·exact A55 u
 ·exact A55 l
theorem A5x {l u x:Int}(h1:l<=x)(h2:x<=u):sqL l u<=x*x:=by
 unfold sqL
 by_cases h:0<=l
 ·rw[Apj h]
  show l*l<=x*x
  exact Aqy h1 h1 h (by omega)
 ·rw[Apy h]
  by_cases g:u<=0
  ·rw[Apj g]
   show u*u<=x*x
   have:=Aqy (a:=-u) (b:=-u) (c:=-x) (d:=-x) (by omega) (by omega) (by omega) (by omega)
   rwa [Arm,Arm]at this
  ·rw[Apy g]
   show 0<=x*x
   exact A55 x
theorem Mr {l u x:Int}(h1:l<=x)(h2:x<=u):x*x<=l*l\/x*x<=u*u:=by
 rcases Aro 0 x with k|k
 ·exact .inr (Aqy h2 h2 k (by omega))
 ·left
  have:=Aqy (a:=-x) (b:=-x) (c:=-l) (d:=-l) (by omega) (by omega) (by omega) (by omega)
  rwa [Arm,Arm]at this
noncomputable def skip (cx cy h:Int):Bool :=
 let u0:=Int.sub (Int.sub cx h) 4194304
 let u1:=Int.sub (Int.add cx h) 4194304
 let v0:=Int.sub cy h
 let v1:=Int.add cy h
 let b:=sqL v0 v1
 let q:=Int.add (sqL u0 u1) b
 let s:=Int.add q (Int.mul u0 16777216)
 let m:=Int.mul q s
 Bool.rec false (Bool.rec false (Bool.rec false
  (decide (Int.mul (Int.mul v1 v1) 70368744177664<m)) (decide (Int.mul (Int.mul v0 v0) 70368744177664<m)))
  (decide (17592186044416<Int.add (sqL (Int.add u0 20971520) (Int.add u1 20971520)) b))) (decide (0<=s))
def Inn (px py:Int):Prop:=((px-4194304) *(px-4194304)+py*py) *((px-4194304) *(px-4194304)+py*py +(px-4194304)*16777216)<=py*py*70368744177664 \/(px+16777216) *(px+16777216)+py*py<=17592186044416
theorem Ag4 {cx cy h px py:Int}(hs:skip cx cy h=true)(x1:cx-h<=px)(x2:px<=cx+h)(y1:cy-h<=py)(y2:py<=cy+h):¬Inn px py:=by
 unfold skip at hs;simp only[I7,Apm]at hs;obtain⟨h1,h2,h3,h4⟩:=hs;have a1:=A5x (l:=Int.sub (Int.sub cx h) 4194304) (u:=Int.sub (Int.add cx h) 4194304) (x:=px-4194304) (by show cx-h-4194304<=_;omega) (by show _<=cx+h-4194304;omega)
 have a2:=A5x (l:=Int.sub cy h) (u:=Int.add cy h) (x:=py) y1 y2;have a3:=A5x (l:=Int.add (Int.sub (Int.sub cx h) 4194304) 20971520) (u:=Int.add (Int.sub (Int.add cx h) 4194304) 20971520) (x:=px+16777216) (by show cx-h-4194304+20971520<=_;omega) (by show _<=cx+h-4194304+20971520;omega)
 have a4:=Mr (l:=Int.sub cy h) (u:=Int.add cy h) (x:=py) y1 y2;have a5:Int.sub (Int.sub cx h) 4194304<=px-4194304:=by show cx-h-4194304<=_;omega
 have n1:0<=sqL (Int.sub (Int.sub cx h) 4194304) (Int.sub (Int.add cx h) 4194304):=Adp _ _;have n2:0<=sqL (Int.sub cy h) (Int.add cy h):=Adp _ _;generalize sqL (Int.sub (Int.sub cx h) 4194304) (Int.sub (Int.add cx h) 4194304)=A at *;generalize sqL (Int.sub cy h) (Int.add cy h)=B at *;generalize sqL (Int.add (Int.sub (Int.sub cx h) 4194304) 20971520) (Int.add (Int.sub (Int.add cx h) 4194304) 20971520)=C at *;generalize Int.sub (Int.sub cx h) 4194304=u0 at *;generalize Int.sub cy h=v0 at *;generalize Int.add cy h=v1 at *;rintro(g|g)
 ·replace h1:0<=A+B+u0*16777216:=h1;replace h3:v0*v0*70368744177664 <(A+B) *(A+B+u0*16777216):=h3;replace h4:v1*v1*70368744177664 <(A+B) *(A+B+u0*16777216):=h4
  have k1:(A+B) *(A+B+u0*16777216) <=((px-4194304) *(px-4194304)+py*py) *((px-4194304) *(px-4194304)+py*py +(px-4194304)*16777216) :=
   Aqy (by omega) (by omega) (by omega) (by omega)
  omega
 ·replace h2:17592186044416<C+B:=h2
  omega
noncomputable def okB (cx cy:Int)(h:Nat):Bool :=
 let rho:=Nat.add h (Nat.div (Nat.mul h 27) 64)
 Bool.rec false (S6 cx cy rho 40 0 0 0 0 0) (Nat.ble (Nat.mul 2 (Nat.mul h h)) (Nat.mul rho rho))
def Fine (px py:Int):Prop:=∀k,k<40->Le (zr px py k).1 (zr px py k).2 33554432
theorem Ahx {cx cy:Int}{h:Nat}{px py:Int}(ho:okB cx cy h=true)(x1:cx-h<=px)(x2:px<=cx+h)(y1:cy-h<=py)(y2:py<=cy+h):Fine px py:=by
 unfold okB at ho;simp only[I7]at ho;obtain⟨h1,h2⟩:=ho;have h1:=Aum h1;generalize Nat.add h (Nat.div (Nat.mul h 27) 64)=rho at *;replace h1:2 *(h*h)<=rho*rho:=h1
 have ht:Le ((px:Rat)-cx) ((py:Rat)-cy) rho:=by
  have g1:=Mr (l:=-h) (u:=h) (x:=px-cx) (by omega) (by omega)
  have g2:=Mr (l:=-h) (u:=h) (x:=py-cy) (by omega) (by omega)
  rw[Arm]at g1 g2
  have g3:(px-cx) *(px-cx) +(py-cy) *(py-cy) <=(rho:Int)*rho:=by
   have:(2 *(h*h:Nat):Int) <=(rho*rho:Nat):=by exact_mod_cast h1
   push_cast at this
   omega
  refine⟨A6w _,?_⟩
  have e1:(px:Rat)-cx=((px-cx:Int):Rat):=by simp
  have e2:(py:Rat)-cy=((py-cy:Int):Rat):=by simp
  rw[e1,e2]
  exact_mod_cast g3
 intro k hk;have:=A7k ht (n:=40) (k:=0) (X:=0) (Y:=0) (P:=0) (Q:=0) (R:=0) ⟨0,0,⟨by decide,by decide +kernel⟩,by simp[zr];decide +kernel,by simp[zr];decide +kernel⟩ h2 k hk
 rwa [Aqr]at this
noncomputable def tst (cx cy:Int)(j:Nat):Bool :=
 Bool.rec (Bool.rec false (okB cx cy (Nat.pow 2 j)) (Nat.ble j 22)) true (skip cx cy (Int.ofNat (Nat.pow 2 j)))
noncomputable def go (j:Nat):Int->Int->Bool :=
 Nat.rec (fun cx cy=>tst cx cy 0) (fun j ih cx cy =>
  Bool.rec (Bool.rec false (Bool.rec false (Bool.rec false
   (ih (Int.add cx (Int.ofNat (Nat.pow 2 j))) (Int.add cy (Int.ofNat (Nat.pow 2 j))))
   (ih (Int.add cx (Int.ofNat (Nat.pow 2 j))) (Int.sub cy (Int.ofNat (Nat.pow 2 j)))))
   (ih (Int.sub cx (Int.ofNat (Nat.pow 2 j))) (Int.add cy (Int.ofNat (Nat.pow 2 j)))))
   (ih (Int.sub cx (Int.ofNat (Nat.pow 2 j))) (Int.sub cy (Int.ofNat (Nat.pow 2 j))))) true (tst cx cy (Nat.succ j))) j
def Good (j:Nat)(cx cy:Int):Prop:=∀px py:Int,cx-(2^j:Nat)<=px->px<=cx +(2^j:Nat)->cy-(2^j:Nat)<=py->py<=cy +(2^j:Nat)->Inn px py->Fine px py
theorem Aeb {j:Nat}{cx cy:Int}(h:tst cx cy j=true):Good j cx cy:=by
 intro px py x1 x2 y1 y2 hi;unfold tst at h
 cases hs:skip cx cy (Int.ofNat (Nat.pow 2 j))with
 | true=>exact absurd hi (Ag4 hs x1 x2 y1 y2)
 | false =>
   rw[hs]at h;have h:=(I7.1 h).2
   exact Ahx h x1 x2 y1 y2
theorem Good.four {j:Nat}{cx cy:Int}(a:Good j (cx-(2^j:Nat)) (cy-(2^j:Nat)))(b:Good j (cx-(2^j:Nat)) (cy +(2^j:Nat)))(c:Good j (cx +(2^j:Nat)) (cy-(2^j:Nat)))(d:Good j (cx +(2^j:Nat)) (cy +(2^j:Nat))):Good (j+1) cx cy:=by
 intro px py x1 x2 y1 y2 hi;rw[Ark]at x1 x2 y1 y2;unfold Good at a b c d;generalize 2^j=h at *
 by_cases hx:px<=cx<;>by_cases hy:py<=cy
 ·exact a px py (by omega) (by omega) (by omega) (by omega) hi
 ·exact b px py (by omega) (by omega) (by omega) (by omega) hi
 ·exact c px py (by omega) (by omega) (by omega) (by omega) hi
 ·exact d px py (by omega) (by omega) (by omega) (by omega) hi
theorem A8:∀{j:Nat} {cx cy:Int},go j cx cy=true->Good j cx cy
 | 0,cx,cy,h=>Aeb h
 | j+1,cx,cy,h=>by
   cases ht:tst cx cy (j+1)with
   | true=>exact Aeb ht
   | false =>
     replace h:Bool.rec (motive:=fun _=>Bool) (Bool.rec (motive:=fun _=>Bool) false (Bool.rec (motive:=fun _=>Bool) false (Bool.rec (motive:=fun _=>Bool) false (go j (cx +(2^j:Nat)) (cy +(2^j:Nat))) (go j (cx +(2^j:Nat)) (cy-(2^j:Nat)))) (go j (cx-(2^j:Nat)) (cy +(2^j:Nat)))) (go j (cx-(2^j:Nat)) (cy-(2^j:Nat)))) true (tst cx cy (j+1))=true:=h
     rw[ht]at h;replace h:=(I7.1 h);obtain⟨h1,h⟩:=h;obtain⟨h2,h⟩:=I7.1 h;obtain⟨h3,h4⟩:=I7.1 h
     exact Good.four (A8 h1) (A8 h2) (A8 h3) (A8 h4)
end Cov
namespace Cov
theorem cv0:Good 25 (-100663296) 33554432:=A8 (by decide +kernel)
theorem cv3:Good 24 (-50331648) 50331648:=A8 (by decide +kernel)
theorem Alx:Good 20 (-13631488) 1048576:=A8 (by decide +kernel)
theorem Amb:Good 20 (-11534336) 7340032:=A8 (by decide +kernel)
theorem Amd:Good 19 (-9961472) 6815744:=A8 (by decide +kernel)
theorem Amt:Good 21 (-6291456) 14680064:=A8 (by decide +kernel)
theorem Amy:Good 19 (-2621440) 12058624:=A8 (by decide +kernel)
theorem An8:Good 26 (-67108864) 201326592:=A8 (by decide +kernel)
theorem Anu:Good 18 6029312 2883584:=A8 (by decide +kernel)
theorem Ao2:Good 18 5505024 4980736:=A8 (by decide +kernel)
theorem Ao7:Good 19 4718592 7864320:=A8 (by decide +kernel)
theorem Ajm:Good 20 7340032 5242880:=A8 (by decide +kernel)
theorem Ajn:Good 20 7340032 7340032:=A8 (by decide +kernel)
theorem Ajs:Good 20 1048576 11534336:=A8 (by decide +kernel)
theorem Ajt:Good 19 2621440 8912896:=A8 (by decide +kernel)
theorem Ajz:Good 21 6291456 10485760:=A8 (by decide +kernel)
theorem Ak9:Good 25 33554432 100663296:=A8 (by decide +kernel)
end Cov
end Go.Proofs.YtlfleicchbgcmaaGreat
