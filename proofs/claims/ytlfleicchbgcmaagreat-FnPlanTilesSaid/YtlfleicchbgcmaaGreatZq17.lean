import Derived.Test.YtlfleicchbgcmaaGreatZq16
import Derived.RangeFuncNested
import Derived.RangeFuncCalls
import Derived.RangeFuncLeaves
import Derived.RangeFuncBox
import Derived.OwnWalkIn
import Derived.TacticsInMore
import Derived.LoopNIn
import Derived.LoopIn
import Derived.WalkMore
import Derived.Test.YtlfleicchbgcmaaGreatZq0
import Derived.Test.YtlfleicchbgcmaaGreatZqK
set_option linter.all false
set_option maxHeartbeats 16000000
set_option maxRecDepth 100000
namespace Go.Proofs.YtlfleicchbgcmaaGreat
section
open Go.RowKit
attribute [local go_sem ↓] Go.wp_at_zero Go.wp_at_succ
attribute [local go_sem] A7 A5
theorem TM.Afi {w W:World}{rb:Nat}(cx cy:Nat)(deep size:Int){cap:Nat}{C D:Array Value}(hm:cap<=maxLen)(hC:C.size=cap)(hD:D.size=cap)(R:A8 w rb (Bu 0 0 0 0 (.slice none 0 0) (.slice none 0 0)) 35 W)(hr:w.heap.size<=rb) :
 TM w rb (W.heap.size+1+1) cx cy deep size 0 0 [] [] (.slice (some ⟨W.heap.size,0,none⟩) 0 cap) (.slice (some ⟨W.heap.size+1,0,none⟩) 0 cap) (((W.alloc (.cells C 74)).alloc (.cells D 3)).alloc (.cells (Bu cx cy deep size (.slice (some ⟨W.heap.size,0,none⟩) 0 cap) (.slice (some ⟨W.heap.size+1,0,none⟩) 0 cap)) 35)):=by
 have hs:=R.old.size;have hlt:=R.lt;have new:∀(W:World) (C:Array Value) (t:TypeId),(W.alloc (.cells C t)).heap[W.heap.size]?=some (.cells C t (0,0)):=fun W C t=>Ak6 W _
 have Nh:∀(W:World) (C:Array Value) (t:TypeId) (k:Nat) (o:Obj),W.heap[k]?=some o ->(W.alloc (.cells C t)).heap[k]?=some o:=fun W C t k o h=>(Am1 W _ k (Ai2.1 h).1).trans h
 have n0:=new W C 74;have n1:=new (W.alloc (.cells C 74)) D 3;simp only[Aim]at n1
 refine⟨?_,((R.alloc _).alloc _).alloc _,⟨by simp,.inr ⟨_,_,C,rfl,hs,Nh _ _ _ _ _ (Nh _ _ _ _ _ n0),Aj9 _,hm,by simp[hC],by simp⟩⟩,⟨by simp,.inr ⟨_,_,D,rfl,by omega,Nh _ _ _ _ _ n1,Aj9 _,hm,by simp[hD],by simp⟩⟩,(fun x hx=>by cases hx),(fun x hx=>by cases hx),by omega,hr,by omega⟩
 have:=(A8.new ((W.alloc (.cells C 74)).alloc (.cells D 3)) (Bu cx cy deep size (.slice (some ⟨W.heap.size,0,none⟩) 0 cap) (.slice (some ⟨W.heap.size+1,0,none⟩) 0 cap)) 35).up (w0:=w) ((R.alloc _).alloc _).old
 simpa only[Aim]using this
theorem A1k {W:World}{B cap:Nat}{e:TypeId}{g:Nat}{xs:List Value}(h:W.ownsRow B e 1 (.slice (some ⟨g,0,none⟩) cap cap) cap xs):B<=g/\W.heap[g]?=some (.cells xs.toArray e (0,0)):=by
 obtain⟨hl,h⟩:=h
 rcases h with⟨h,_⟩ |⟨g',c,cur,h1,h2,h3,h4,h5,h6,h7⟩
 ·cases h
 ·injection h1 with h1 _ h8
  injection h1 with h1
  injection h1 with h1
  subst h1 h8
  refine⟨h2,?_⟩
  rw[<-h7,h3];have:cur.toList.take (cap*1)=cur.toList:=Ajz (by simp[h6])
  rw[this]
theorem A4e {cx cy d s cap B:Nat}{gs gm:Nat}{xs:List Nat}{ys:List Int}{W:World}(hcap:s*s=cap)(h:Made B ((s:Int).toNat *(s:Int).toNat) xs ys (.slice (some ⟨gs,0,none⟩) cap cap) (.slice (some ⟨gm,0,none⟩) cap cap) W) :
 Uw cx cy d s xs ys B (.tuple #[.agg #[.complex .f32 cx cy,.int .i64 d,.int .i64 s,.slice (some ⟨gs,0,none⟩) cap cap,.slice (some ⟨gm,0,none⟩) cap cap],.bool true]) W:=by
 have e:(s:Int).toNat *(s:Int).toNat=cap:=by rw[Ajk];exact hcap
 have hS:=h.S;have hM:=h.M;rw[e]at hS hM;obtain⟨b1,c1⟩:=A1k hS;obtain⟨b2,c2⟩:=A1k hM
 refine⟨gs,gm,by rw[hcap];rfl,b1,b2,fun x=>?_,c1,c2⟩
 rw[x,c2]at c1;injection c1 with c1
 injection c1 with _ c1
 cases c1
def A8i (w:World)(cx cy:Nat)(d s:Nat)(ok:Nat->Nat->Bool)(st:Nat->Nat->Int)(sm:Nat->Nat->Nat)(e:Ending)(w':World):Prop :=
 Below w.heap.size w w' /\(((∃i j,i<s/\j<s/\ok i j=false)/\e=.returned P8) \/
  ((∀i j,i<s->j<s->ok i j=true)/\∃v,e=.returned v/\Uw cx cy d s (rowsOf s sm s) (rowsOf s st s) w.heap.size v w'))
theorem Mi (cx cy d s:Nat)(A4:Int)(hd10:d<=10)(hs8:s<=8)(hpl:Az cx cy d s=true){ok:Nat->Nat->Bool}{b0 b1 b2 b3:Nat->Nat->Int}{px py:Nat->Nat->Nat}{st:Nat->Nat->Int}{sm:Nat->Nat->Nat}(C:A8a cx cy d s A4 ok b0 b1 b2 b3 px py st sm)(w:World) :
 Calls Vp.prog 15 #[.complex .f32 cx cy,.int .i64 d,.int .i64 s,.int .i64 A4] w (A8i w cx cy d s ok st sm):=by
 have R:=A8.new w (Bu 0 0 0 0 (.slice none 0 0) (.slice none 0 0)) 35;have HP:=Ai1 (fun w=>Ib cx cy d s w)
 rw[hpl]at HP;have HCV:=Ai1 C;clear C hpl;unfold Bu at R
 go_enter Vp.Pk,Vp.A3h
 unfold Vp.guarded;simp only[Vp.lay,Nat.reduceBEq,Aj8,Alx,Amg,Vp.guards,Vp.made]
 go_wp2_with fail
 refine(HP.out _).mono ?_
 rintro e w1 ⟨rfl,hd⟩;have HR:=Ai1 (R.step (hd.below _));clear R hd;obtain⟨iF,hiF,hzF0,hzF1,hzF2⟩:=Ajw Vl;obtain⟨iI,hiI,hzI0,hzI1,hzI2⟩:=Ajw Po;obtain⟨cap,hcap⟩:∃cap:Nat,s*s=cap:=⟨_,rfl⟩;have hc64:cap<=64:=by rw[<-hcap];exact Ajm hs8 hs8
 have kss:((s*s:Nat):Int)=(s:Int)*s:=by simp
 have kc:wrap64 ((s:Int)*s)=(cap:Int):=by
  rw[<-kss,hcap]
  exact Fw (by omega) (by omega)
 obtain⟨cF,hcF,hF⟩:=F7 (P:=Vp.prog) 33 74 iF _ (Vp.Di Tryz.underlying33) hiF hzF0 cap (by omega) (by omega)
 obtain⟨cI,hcI,hI⟩:=F7 (P:=Vp.prog) 27 3 iI _ (Vp.Di Tryz.underlying27) hiI hzI0 cap (by omega) (by omega)
 have kcs:((cap:Nat):Int)=(s:Int)*s:=by rw[<-hcap];simp
 have hF2:=hF;have hI2:=hI;simp only[kcs]at hF2 hI2;have HT:=Ai1 (TM.Afi cx cy d s (show cap<=maxLen by unfold maxLen;omega) (show cF.size=cap by rw[hcF,hzF1];omega) (show cI.size=cap by rw[hcI,hzI1];omega) HR.out (Ai3 _))
 unfold Bu at HT;clear HR
 go_wp2
 clear hF hI hF2 hI2 kcs kc kss;generalize w1.heap.size+1+1=ob at *;generalize w1.heap.size+1=gm at *;generalize w1.heap.size=gs at *
 go_loopw [11] (fun i wr=>∃(k N:Nat),k<=s/\i=.int .i64 k/\Hid (N=k*s)/\Hid (∀i j,i<k->j<s->ok i j=true)/\Hid (TM w w.heap.size ob cx cy d s N N (rowsOf s sm k) (rowsOf s st k) (.slice (some ⟨gs,0,none⟩) N cap) (.slice (some ⟨gm,0,none⟩) N cap) wr)) (fun i _=>(s-intOf i).toNat)
 case atStart=>exact⟨0,0,by omega,rfl,(by show 0=0*s;simp),(fun i j h=>by omega),HT⟩
 case round =>
  obtain⟨k,N,hk,rfl,HN,HOK,HT⟩:=hrel;obtain⟨wo,rfl⟩:∃wo,wo=wr:=⟨_,rfl⟩
  by_cases hks:k<s
  ·go_wp2
   go_loopw [12] (fun j wr=>∃(l N:Nat),l<=s/\j=.int .i64 l/\Hid (N=k*s+l)/\Hid (∀j,j<l->ok k j=true)/\Hid (TM w w.heap.size ob cx cy d s N N (Js s sm k l) (Js s st k l) (.slice (some ⟨gs,0,none⟩) N cap) (.slice (some ⟨gm,0,none⟩) N cap) wr)) (fun j _=>(s-intOf j).toNat)
   case atStart=>exact⟨0,N,by omega,rfl,HN,(fun j h=>by omega),by rw[Yg,Yg];exact HT⟩
   case round =>
    clear HT HN;obtain⟨l,N,hl,rfl,HN,HOL,HT⟩:=hrel;clear wo;obtain⟨wo,rfl⟩:∃wo,wo=wr:=⟨_,rfl⟩
    by_cases hls:l<s
    ·have hN72:N+1<=cap:=by
      have h2:=HN.out;have h3:(k+1)*s<=s*s:=Ai7 _ (by omega)
      rw[Akc]at h3
      omega
     have HC:=Ai1 (HCV.out.box k l hks hls);have HST:=Ai1 (HCV.out.state k l hks hls);have HPT:=Ai1 (HCV.out.Ads k l hks hls);have HSM:=Ai1 (HCV.out.Hv k l hks hls);have hz:=HCV.out.Agw k l;obtain⟨y0,y1⟩:=HCV.out.Agy k l;obtain⟨p,ep⟩:∃p,b0 k l=p:=⟨_,rfl⟩;obtain⟨q,eq⟩:∃p,b1 k l=p:=⟨_,rfl⟩;obtain⟨r,er⟩:∃p,b2 k l=p:=⟨_,rfl⟩;obtain⟨u,eu⟩:∃p,b3 k l=p:=⟨_,rfl⟩;obtain⟨t,et⟩:∃p,ok k l=p:=⟨_,rfl⟩;obtain⟨x,ex⟩:∃p,px k l=p:=⟨_,rfl⟩;obtain⟨y,ey⟩:∃p,py k l=p:=⟨_,rfl⟩;obtain⟨z,ez⟩:∃p,sm k l=p:=⟨_,rfl⟩;obtain⟨sT,eT⟩:∃p,st k l=p:=⟨_,rfl⟩;rw[ep,eq,er,eu,et]at HC;rw[ep,eq,er,eu,et,eT]at HST;rw[ex,ey]at HPT;rw[ex,ey,ez,et]at HSM;rw[ez]at hz;rw[eT]at y0 y1;have HZ:=Ai1 ez;have HS:=Ai1 eT;have HT':=Ai1 et;clear ep eq er eu et ex ey ez eT
     go_wp2_with fail
     refine(HC.out _).mono ?_
     rintro e w2 ⟨rfl,hb⟩;have T:=HT.out.step hb;clear HT hb HC
     cases t with
     | false =>
       replace T:=T.alloc (.cells #[.int .i64 p,.int .i64 q,.int .i64 r,.int .i64 u] 93);obtain⟨c0,c1,c2,c3,c4⟩:=T.rc;obtain⟨f0,f1,f2,f3,f4⟩:=T.R.E7;have HB:=Ai1 T.old;clear T
       go_wp2
       exact Ai6 (v:=.tuple #[.agg #[.complex .f32 0 0,.int .i64 0,.int .i64 0,.slice none 0 0,.slice none 0 0],.bool false]) (by simp[results,Vp.Nu,Tryz.f15,go_sem,c0,c1,c2,c3,c4]) rfl ⟨I1 HB.out (Ai3 _) _ _ _ _ _,.inl ⟨⟨k,l,hks,hls,HT'.out⟩,rfl⟩⟩
     | true =>
       have HSTT:=Ai1 (HST.out rfl);have HSMM:=Ai1 (HSM.out rfl);clear HST HSM;have X:=A8.new w2 #[.int .i64 p,.int .i64 q,.int .i64 r,.int .i64 u] 93;have x0:=X.cell 0 _ rfl;have x1:=X.cell 1 _ rfl;have x2:=X.cell 2 _ rfl;have x3:=X.cell 3 _ rfl;have HT2:=Ai1 (T.alloc (.cells #[.int .i64 p,.int .i64 q,.int .i64 r,.int .i64 u] 93));clear X T
       go_wp2_with fail
       refine(HSTT.out _).mono ?_
       rintro e w3 ⟨rfl,hb⟩;have T3:=HT2.out.step hb;have hbase:=T3.old.size;obtain⟨-,-,-,k3,-⟩:=T3.oc;clear x0 x1 x2 x3 HT2 hb
       go_wp2_with fail
       go_region_law (first
        |(go_simp
          go_at_call 48
          refine(HPT.out _).mono ?_
          rintro e w4 ⟨rfl,rfl⟩;have T4:=T3.Vd (Aq.refl _).drew;obtain⟨-,-,-,k4,-⟩:=T4.oc)
        |(go_simp
          go_at_call 47
          refine(HSMM.out _).mono ?_
          rintro e w5 ⟨rfl,hd⟩;have T5:=T4.Vd hd;have hb5:=T5.old.size;obtain⟨-,-,-,k5,-⟩:=T5.oc;obtain⟨-,-,-,k5',-⟩:=(T5.alloc (.cells #[.float .f32 z] 74)).oc;clear hd)
        |(refine Ij _ (by rfl) _ _ _ (by rfl) w.heap.size 74 iF 1 (Vp.Di Tryz.underlying33) hiF hzF1 gs N cap ((Js s sm k l).map D6) (by rfl) (T5.S.alloc _) ⟨w5.heap.size,0,none⟩ 1 1 [D6 z] (by rfl) (by rfl) (World.news_of_block (cs:=#[D6 z]) (t:=74) (fr:=(0,0)) (Ak6 w5 _)) (by simp[D6,Value.oneCell']) (by omega) ?_
          intro w6 hown hgrow;obtain⟨T6,k6,f6⟩:=(T5.alloc _).Hv hz hown hgrow))
       all_goals
        have HT6:=Ai1 T6;obtain⟨-,-,-,-,k7⟩:=T6.oc;obtain⟨-,-,-,-,k8⟩:=(T6.alloc (.cells #[.int .i64 sT] 3)).oc;have hb6:=T6.old.size;clear T3 T4 T5 T6 k3 k4 k5 k5' k6 f6 hown hgrow;generalize w6.setCell ⟨ob,3,none⟩ (.slice (some ⟨gs,0,none⟩) (N+1) cap)=w7 at *
        go_wp2_with (at_builtin;refine wpList_append_own_spare _ rfl _ _ _ rfl w.heap.size 3 iI 1 (Vp.Di Tryz.underlying27) hiI hzI1 gm N cap ((Js s st k l).map Av) rfl (HT6.out.M.alloc _) ⟨w7.heap.size,0,none⟩ 1 1 [Av sT] rfl rfl (World.news_of_block (cs:=#[Av sT]) (t:=3) (fr:=(0,0)) (Ak6 w7 _)) (by simp[Av,Value.oneCell']) (by omega) ?_;intro w8 hown hgrow;obtain⟨T8,k9,f9⟩:=(HT6.out.alloc _).mark ⟨y0,y1⟩ hown hgrow;have HT8:=Ai1 T8;clear T8 hown hgrow)
        go_roundw
        case rel=>exact⟨l+1,N+1,by omega,by go_num,(by show N+1=k*s +(l+1);have:=HN.out;omega),(fun j hj=>by
         by_cases e:j=l
         ·rw[e];exact HT'.out
         ·exact HOL.out j (by omega)),(by
         show TM _ _ _ _ _ _ _ _ _ (Js s sm k (l+1)) (Js s st k (l+1)) _ _ _
         rw[<-Lp,<-Lp,HZ.out,HS.out];exact HT8.out)⟩
        case measure=>simp[intOf];omega
    ·obtain rfl:l=s:=by omega
     go_wp2
     go_roundw
     case rel=>exact⟨k+1,N,by omega,by go_num,(by show N=(k+1)*l;rw[Akc];exact HN.out),(fun i j hi hj=>by
      by_cases e:i=k
      ·rw[e];exact HOL.out j hj
      ·exact HOK.out i j (by omega) hj),(by rw[<-Ns,<-Ns];exact HT)⟩
     case measure=>simp[intOf];omega
  ·obtain rfl:k=s:=by omega
   obtain⟨c0,c1,c2,c3,c4⟩:=HT.out.rc;obtain⟨f0,f1,f2,f3,f4⟩:=HT.out.R.E7;obtain⟨o0,o1,o2,o3,o4⟩:=HT.out.oc;have hne:=HT.out.ne
   go_wp2
   obtain rfl:cap=N:=by rw[<-hcap];exact HN.out.symm
   exact Ai6 (v:=.tuple #[.agg #[.complex .f32 cx cy,.int .i64 d,.int .i64 k,.slice (some ⟨gs,0,none⟩) cap cap,.slice (some ⟨gm,0,none⟩) cap cap],.bool true]) (by simp[results,Vp.Nu,Tryz.f15,go_sem,c0,c1,c2,c3,c4]) rfl ⟨I1 HT.out.old (Ai3 _) _ _ _ _ _,.inr ⟨HOK.out,_,rfl,A4e hcap (HT.out.made HN.out _ _ _ _ _)⟩⟩
end
section
open Go.RowKit
attribute [local go_sem ↓] Go.wp_at_zero Go.wp_at_succ
attribute [local go_sem] A7 A5
theorem A27 (cx cy:Nat)(deep size A4:Int)(hpl:Az cx cy deep size=false)(w:World) :
 Calls Vp.prog 18 #[.complex .f32 cx cy,.int .i64 deep,.int .i64 size,.int .i64 A4] w fun e w'=>e=.returned P8/\Below w.heap.size w w':=by
 have R:=A8.new w (Bu 0 0 0 0 (.slice none 0 0) (.slice none 0 0)) 35;have HP:=Ai1 (fun w=>Ib cx cy deep size w)
 rw[hpl]at HP;clear hpl;unfold Bu at R
 go_enter Vp.func18,Tryz.ntmps18
 go_wp2_with fail
 refine(HP.out _).mono ?_
 rintro e w1 ⟨rfl,hd⟩;replace R:=R.step (hd.below _);have c0:=R.cell 0 _ rfl;have c1:=R.cell 1 _ rfl;have c2:=R.cell 2 _ rfl;have c3:=R.cell 3 _ rfl;have c4:=R.cell 4 _ rfl;have f0:=R.frozen 0;have f1:=R.frozen 1;have f2:=R.frozen 2;have f3:=R.frozen 3;have f4:=R.frozen 4;have HB:=Ai1 R.old;clear R hd
 go_wp2
 exact Ai6 (v:=.tuple #[.agg #[.complex .f32 0 0,.int .i64 0,.int .i64 0,.slice none 0 0,.slice none 0 0],.bool false]) (by simp[results,Tryz.f18,go_sem,c0,c1,c2,c3,c4]) rfl ⟨rfl,I1 HB.out (Ai3 _) _ _ _ _ _⟩
theorem O7 (cx cy:Nat)(deep size A4:Int)(hpl:Az cx cy deep size=false)(w:World) :
 Calls Vp.prog 15 #[.complex .f32 cx cy,.int .i64 deep,.int .i64 size,.int .i64 A4] w fun e w'=>e=.returned P8/\Below w.heap.size w w':=by
 have R:=A8.new w (Bu 0 0 0 0 (.slice none 0 0) (.slice none 0 0)) 35;have HP:=Ai1 (fun w=>Ib cx cy deep size w)
 rw[hpl]at HP;clear hpl;unfold Bu at R
 go_enter Vp.Pk,Vp.A3h
 unfold Vp.guarded;simp only[Vp.lay,Nat.reduceBEq,Aj8,Alx,Amg,Vp.guards,Vp.made]
 go_wp2_with fail
 refine(HP.out _).mono ?_
 rintro e w1 ⟨rfl,hd⟩;replace R:=R.step (hd.below _);have c0:=R.cell 0 _ rfl;have c1:=R.cell 1 _ rfl;have c2:=R.cell 2 _ rfl;have c3:=R.cell 3 _ rfl;have c4:=R.cell 4 _ rfl;have f0:=R.frozen 0;have f1:=R.frozen 1;have f2:=R.frozen 2;have f3:=R.frozen 3;have f4:=R.frozen 4;have HB:=Ai1 R.old;clear R hd
 go_wp2
 exact Ai6 (v:=.tuple #[.agg #[.complex .f32 0 0,.int .i64 0,.int .i64 0,.slice none 0 0,.slice none 0 0],.bool false]) (by simp[results,Vp.Nu,Tryz.f15,go_sem,c0,c1,c2,c3,c4]) rfl ⟨rfl,I1 HB.out (Ai3 _) _ _ _ _ _⟩
end
section
open Go.RowKit
theorem Uc (a b c d:Int)(hv:Bg a b c d=true)(w:World):Calls Vp.prog 130 #[.agg #[.int .i64 a,.int .i64 b,.int .i64 c,.int .i64 d]] w fun e w'=>e=.returned (Fg (Bx.sq ⟨a,b,c,d⟩))/\Below w.heap.size w w':=by
 obtain⟨X,Z⟩:=A28 w #[.int .i64 a,.int .i64 b,.int .i64 c,.int .i64 d] 93 #[.int .i64 0,.int .i64 0,.int .i64 0,.int .i64 0] 93;obtain⟨b1,b2,b3,b4,b5,b6⟩:=Bx.bd (x:=⟨a,b,c,d⟩) hv;dsimp only at b1 b2 b3 b4 b5 b6;have l1:=Ew (l:=a) (h:=b) (k:=134217728) (by omega) (by omega)
 have l2:=Ew (l:=c) (h:=d) (k:=134217728) (by omega) (by omega)
 have l3:=Dd (l:=a) (h:=b) (k:=134217728) (by omega) (by omega) (by omega) (by omega)
 have l4:=Dd (l:=c) (h:=d) (k:=134217728) (by omega) (by omega) (by omega) (by omega)
 have u1:=Gn (x:=a) (y:=c) (k:=134217728) (by omega) (by omega) (by omega) (by omega)
 have u2:=Gn (x:=a) (y:=d) (k:=134217728) (by omega) (by omega) (by omega) (by omega)
 have u3:=Gn (x:=b) (y:=c) (k:=134217728) (by omega) (by omega) (by omega) (by omega)
 have u4:=Gn (x:=b) (y:=d) (k:=134217728) (by omega) (by omega) (by omega) (by omega)
 have bm:-18014398509481984<=mLo ⟨a,b,c,d⟩/\mLo ⟨a,b,c,d⟩<=18014398509481984:=by unfold mLo;dsimp only;omega
 have bn:-18014398509481984<=mHi ⟨a,b,c,d⟩/\mHi ⟨a,b,c,d⟩<=18014398509481984:=by unfold mHi;dsimp only;omega
 have HV:=Ai1 (Eh a b c d);rw[hv]at HV;have HQ:=Ai1 (Fb a b (by omega) (by omega) (by omega) (by omega))
 have HR:=Ai1 (Fb c d (by omega) (by omega) (by omega) (by omega))
 have HT:=Ai1 (A3v a b c d (by omega) (by omega) (by omega) (by omega) (by omega) (by omega) (by omega) (by omega))
 have hsq:Bx.sq ⟨a,b,c,d⟩=⟨(Ct a b-Bs c d) / 16777216,N0 (Bs a b-Ct c d) 16777216,(mLo ⟨a,b,c,d⟩+mLo ⟨a,b,c,d⟩) / 16777216,N0 (mHi ⟨a,b,c,d⟩+mHi ⟨a,b,c,d⟩) 16777216⟩:=by
  unfold Bx.sq;rw[show 2*mLo ⟨a,b,c,d⟩=mLo ⟨a,b,c,d⟩+mLo ⟨a,b,c,d⟩ by omega,show 2*mHi ⟨a,b,c,d⟩=mHi ⟨a,b,c,d⟩+mHi ⟨a,b,c,d⟩ by omega]
 rw[hsq];generalize Ct a b=s1 at *;generalize Ct c d=s3 at *;generalize Bs a b=s2 at *;generalize Bs c d=s4 at *;generalize mLo ⟨a,b,c,d⟩=m3 at *;generalize mHi ⟨a,b,c,d⟩=n3 at *;have HL:=Ai1 (Wn s1 s2 s3 s4 (by omega) (by omega) (by omega) (by omega) (by omega) (by omega) (by omega) (by omega))
 have HP:=Ai1 (Hc m3 n3 m3 n3 (by omega) (by omega) (by omega) (by omega) (by omega) (by omega) (by omega) (by omega))
 have HO:=Ai1 (Nz (s1-s4) (s2-s3) 24 (by decide) (by omega) (by omega) (by omega) (by omega))
 have HO2:=Ai1 (Nz (m3+m3) (n3+n3) 24 (by decide) (by omega) (by omega) (by omega) (by omega))
 have hk:((2^24:Nat):Int)=16777216:=rfl;have hk2:((24:Nat):Int)=24:=rfl;rw[hk,hk2]at HO HO2;generalize s1-s4=D1 at *;generalize s2-s3=D2 at *;generalize m3+m3=D3 at *;generalize n3+n3=D4 at *;generalize D1 / 16777216=F1 at *;generalize N0 D2 16777216=F2 at *;generalize D3 / 16777216=F3 at *;generalize N0 D4 16777216=F4 at *;have HD:=Ai1 (Ta F1 F2 F3 F4);obtain⟨o1,o2,o3,o4,o5,hx⟩:=Jk ⟨F1,F2,F3,F4⟩;rw[hx]at HD;rw[hx];clear b1 b2 b3 b4 b5 b6 l1 l2 l3 l4 u1 u2 u3 u4 bm bn hsq hk hk2 hx hv;have x0:=X.cell 0 _ rfl;have x1:=X.cell 1 _ rfl;have x2:=X.cell 2 _ rfl;have x3:=X.cell 3 _ rfl
 go_enter Vp.func130,Tryz.ntmps130
 go_wp2_with fail
 refine(HV.out _).mono ?_
 rintro e w1 ⟨rfl,hb⟩;clear x0 x1 x2 x3;replace X:=X.step hb;replace Z:=Z.step hb;clear hb;have x0:=X.cell 0 _ rfl;have x1:=X.cell 1 _ rfl;have x2:=X.cell 2 _ rfl;have x3:=X.cell 3 _ rfl
 go_wp2_with fail
 refine(F9 a b c d _).mono ?_
 rintro e w2 ⟨rfl,hb⟩;clear x0 x1 x2 x3;replace X:=X.step hb;replace Z:=Z.step hb;clear hb;have Y:=(A8.new w2 #[.int .i64 a,.int .i64 b,.int .i64 c,.int .i64 d] 158).up X.old;have hlz:=Z.lt;replace Z:=Z.alloc (.cells #[.int .i64 a,.int .i64 b,.int .i64 c,.int .i64 d] 158);have hsz:=X.old.size;clear X
 go_upto_region 4 with fail
 generalize w2.heap.size=yb at *;generalize w2.alloc (.cells #[.int .i64 a,.int .i64 b,.int .i64 c,.int .i64 d] 158)=W at *;have hyb:yb<W.drew.heap.size:=Y.lt;have HY:Hid (∀W',Below W.drew.heap.size W.drew W'->A8 w yb #[.int .i64 a,.int .i64 b,.int .i64 c,.int .i64 d] 158 W'):=fun W' h=>(Y.step ((Aq.refl _).drew.below _)).step h
 have HZ:Hid (∀W',Below W.drew.heap.size W.drew W'->A8 w (w.heap.size+1) #[.int .i64 0,.int .i64 0,.int .i64 0,.int .i64 0] 93 W'):=fun W' h=>(Z.step ((Aq.refl _).drew.below _)).step h
 have HW:Hid (∀W',Below W.drew.heap.size W.drew W'->Below w.heap.size w W'):=fun W' h=>(HY.out W' h).old
 have hbk:=Aik W.drew.heap.size W.drew;have hzl:w.heap.size+1<W.drew.heap.size:=Z.lt;have HYd:Hid (∀o,A8 w yb #[.int .i64 a,.int .i64 b,.int .i64 c,.int .i64 d] 158 (W.alloc o).drew):=fun o=>(Y.alloc o).step ((Aq.refl _).drew.below _)
 have H0:Hid (∀o,Below W.drew.heap.size W.drew (W.alloc o).drew):=fun o=>(Aik _ W.drew).alloc (Ai3 _) o
 have HWW:Hid (Below w.heap.size w W):=Y.old;clear Y Z
 go_cut [5]from 13 to 19 (fun p wx=>∃rb:Nat,p=.pointer (some ⟨rb,0,none⟩)/\Hid (A8 w rb #[.int .i64 D1,.int .i64 D2] 156 wx/\A8 w yb #[.int .i64 a,.int .i64 b,.int .i64 c,.int .i64 d] 158 wx/\A8 w (w.heap.size+1) #[.int .i64 0,.int .i64 0,.int .i64 0,.int .i64 0] 93 wx/\w.heap.size+1<rb))
 case first =>
  go_region_held3 (fun w'=>w'.cell? ⟨yb,0,none⟩=some (.int .i64 a)/\w'.cell? ⟨yb,1,none⟩=some (.int .i64 b)/\w'.cell? ⟨yb,2,none⟩=some (.int .i64 c)/\w'.cell? ⟨yb,3,none⟩=some (.int .i64 d)) (((first|dsimp only|skip);first |(with_reducible exact⟨(HY.out _ hbk).cell 0 _ rfl,(HY.out _ hbk).cell 1 _ rfl,(HY.out _ hbk).cell 2 _ rfl,(HY.out _ hbk).cell 3 _ rfl⟩) |(with_reducible exact⟨((HY.out _ hbk).alloc _).cell 0 _ rfl,((HY.out _ hbk).alloc _).cell 1 _ rfl,((HY.out _ hbk).alloc _).cell 2 _ rfl,((HY.out _ hbk).alloc _).cell 3 _ rfl⟩) |(with_reducible exact⟨(HYd.out _).cell 0 _ rfl,(HYd.out _).cell 1 _ rfl,(HYd.out _).cell 2 _ rfl,(HYd.out _).cell 3 _ rfl⟩) |(with_reducible exact⟨((HY.out _ hbk).Ej (Nat.le_of_succ_le (Nat.le_of_lt hrl)) hne _ _).cell 0 _ rfl,((HY.out _ hbk).Ej (Nat.le_of_succ_le (Nat.le_of_lt hrl)) hne _ _).cell 1 _ rfl,((HY.out _ hbk).Ej (Nat.le_of_succ_le (Nat.le_of_lt hrl)) hne _ _).cell 2 _ rfl,((HY.out _ hbk).Ej (Nat.le_of_succ_le (Nat.le_of_lt hrl)) hne _ _).cell 3 _ rfl⟩))) (first
   |(go_at_call 106;(first |(with_reducible refine(HQ.out _).mono ?_) |(with_reducible refine(HR.out _).mono ?_));rintro e w' ⟨rfl,hb⟩;first |(replace hbk:=hbk.trans (hb.mono hbk.size);first |(replace R:=R.step hb;have r0:=R.cell 0 _ rfl;have r1:=R.cell 1 _ rfl;have f0:=R.frozen 0;have f1:=R.frozen 1)|skip) |(have R:=((A8.new _ #[.int .i64 0,.int .i64 0] 156).step hb).up (HW.out _ hbk);have hne:yb≠_:=Aji (Ai9 hyb hbk.size);have hrl:=Ai9 hzl hbk.size;replace hbk:=(hbk.alloc hbk.size _).trans (hb.mono (hbk.alloc hbk.size _).size);have r0:=R.cell 0 _ rfl;have r1:=R.cell 1 _ rfl;have f0:=R.frozen 0;have f1:=R.frozen 1) |(have R:=(((A8.new W #[.int .i64 0,.int .i64 0] 156).step ((Aq.refl _).drew.below _)).step hb).up HWW.out;have hne:yb≠W.heap.size:=Aji hyb;have hrl:w.heap.size+1<W.heap.size:=hzl;replace hbk:=(H0.out _).trans (hb.mono (H0.out _).size);have r0:=R.cell 0 _ rfl;have r1:=R.cell 1 _ rfl;have f0:=R.frozen 0;have f1:=R.frozen 1);clear hb)
   |(go_at_call 105;(with_reducible refine(HL.out _).mono ?_);rintro e w' ⟨rfl,hb⟩;first |(replace hbk:=hbk.trans (hb.mono hbk.size);first |(replace R:=R.step hb;have r0:=R.cell 0 _ rfl;have r1:=R.cell 1 _ rfl;have f0:=R.frozen 0;have f1:=R.frozen 1)|skip) |(have R:=((A8.new _ #[.int .i64 0,.int .i64 0] 156).step hb).up (HW.out _ hbk);have hne:yb≠_:=Aji (Ai9 hyb hbk.size);have hrl:=Ai9 hzl hbk.size;replace hbk:=(hbk.alloc hbk.size _).trans (hb.mono (hbk.alloc hbk.size _).size);have r0:=R.cell 0 _ rfl;have r1:=R.cell 1 _ rfl;have f0:=R.frozen 0;have f1:=R.frozen 1) |(have R:=(((A8.new W #[.int .i64 0,.int .i64 0] 156).step ((Aq.refl _).drew.below _)).step hb).up HWW.out;have hne:yb≠W.heap.size:=Aji hyb;have hrl:w.heap.size+1<W.heap.size:=hzl;replace hbk:=(H0.out _).trans (hb.mono (H0.out _).size);have r0:=R.cell 0 _ rfl;have r1:=R.cell 1 _ rfl;have f0:=R.frozen 0;have f1:=R.frozen 1);clear hb))
  all_goals
   go_wp2_with fail
   go_meet
   first
    | exact⟨_,rfl,(A8.new _ _ _).up (HW.out _ hbk),(HY.out _ hbk).alloc _,(HZ.out _ hbk).alloc _,by have:=hbk.size;omega⟩
    | exact⟨_,rfl,(R.set (by omega) 0 (.int .i64 D1)).set (by omega) 1 (.int .i64 D2),(HY.out _ hbk).Ej (by omega) hne _ _,(HZ.out _ hbk).Ej (by omega) (by omega) _ _,by omega⟩
 case rest =>
  obtain⟨rb,rfl,HC⟩:=hcut;clear HY HZ HW hbk HYd H0 HWW hyb hzl hlz hsz HQ HR HL;obtain⟨R,Y,Z,hrb⟩:=HC.out;clear HC;have hrl:=R.lt;have y0:=Y.cell 0 _ rfl;have y1:=Y.cell 1 _ rfl;have y2:=Y.cell 2 _ rfl;have y3:=Y.cell 3 _ rfl
  go_wp2_with fail
  refine(HT.out _).mono ?_
  rintro e w5 ⟨rfl,hb⟩;clear y0 y1 y2 y3 Y;replace R:=R.step hb;replace Z:=Z.step hb;have hib:rb<w5.heap.size:=R.lt;clear hb;have I:=(A8.new w5 #[.int .i64 m3,.int .i64 n3] 156).up R.old;replace R:=R.alloc (.cells #[.int .i64 m3,.int .i64 n3] 156);replace Z:=Z.alloc (.cells #[.int .i64 m3,.int .i64 n3] 156);have i0:=I.cell 0 _ rfl;have i1:=I.cell 1 _ rfl
  go_wp2_with fail
  refine(HP.out _).mono ?_
  rintro e w6 ⟨rfl,hb⟩;clear i0 i1;replace R:=R.step hb;replace Z:=Z.step hb;replace I:=I.step hb;clear hb;have i0:=I.cell 0 _ rfl;have i1:=I.cell 1 _ rfl;have f0:=I.frozen 0;have f1:=I.frozen 1
  go_upto_region 7 with fail
  clear i0 i1 f0 f1;generalize w5.heap.size=ib at *;replace I:A8 w ib #[.int .i64 D3,.int .i64 D4] 156 ((w6.setCell ⟨ib,0,none⟩ (.int .i64 D3)).setCell ⟨ib,1,none⟩ (.int .i64 D4)):=(I.set (by omega) 0 (.int .i64 D3)).set (by omega) 1 (.int .i64 D4)
  replace R:=R.Ej (b':=ib) (by omega) (by omega) (.int .i64 D3) (.int .i64 D4)
  replace Z:=Z.Ej (b':=ib) (by omega) (by omega) (.int .i64 D3) (.int .i64 D4)
  generalize (w6.setCell ⟨ib,0,none⟩ (.int .i64 D3)).setCell ⟨ib,1,none⟩ (.int .i64 D4)=V at *;have HRk:Hid (∀W',Below V.drew.heap.size V.drew W'->A8 w rb #[.int .i64 D1,.int .i64 D2] 156 W'):=fun W' h=>(R.step ((Aq.refl _).drew.below _)).step h
  have HIk:Hid (∀W',Below V.drew.heap.size V.drew W'->A8 w ib #[.int .i64 D3,.int .i64 D4] 156 W'):=fun W' h=>(I.step ((Aq.refl _).drew.below _)).step h
  have HZk:Hid (∀W',Below V.drew.heap.size V.drew W'->A8 w (w.heap.size+1) #[.int .i64 0,.int .i64 0,.int .i64 0,.int .i64 0] 93 W'):=fun W' h=>(Z.step ((Aq.refl _).drew.below _)).step h
  have HRs:=Ai1 (fun W' h u0 u1 u2 u3=>(HRk.out W' h).G7 (b':=w.heap.size+1) (by omega) (by omega) u0 u1 u2 u3)
  have HIs:=Ai1 (fun W' h u0 u1 u2 u3=>(HIk.out W' h).G7 (b':=w.heap.size+1) (by omega) (by omega) u0 u1 u2 u3)
  have hbk:=Aik V.drew.heap.size V.drew;clear R I Z
  go_region_held3 (fun w'=>w'.cell? ⟨rb,0,none⟩=some (.int .i64 D1)/\w'.cell? ⟨rb,1,none⟩=some (.int .i64 D2)/\w'.cell? ⟨ib,0,none⟩=some (.int .i64 D3)/\w'.cell? ⟨ib,1,none⟩=some (.int .i64 D4)) (((first|dsimp only|skip);first |(with_reducible exact⟨(HRk.out _ hbk).cell 0 _ rfl,(HRk.out _ hbk).cell 1 _ rfl,(HIk.out _ hbk).cell 0 _ rfl,(HIk.out _ hbk).cell 1 _ rfl⟩) |(with_reducible exact⟨(HRs.out _ hbk _ _ _ _).cell 0 _ rfl,(HRs.out _ hbk _ _ _ _).cell 1 _ rfl,(HIs.out _ hbk _ _ _ _).cell 0 _ rfl,(HIs.out _ hbk _ _ _ _).cell 1 _ rfl⟩))) (first
   |(go_at_call 128;(first |(with_reducible refine(HO.out _).mono ?_) |(with_reducible refine(HO2.out _).mono ?_));rintro e w' ⟨rfl,hb⟩;replace hbk:=hbk.trans (hb.mono hbk.size);clear hb)
   |(go_at_call 127;(with_reducible refine(HD.out _).mono ?_);rintro e w' ⟨rfl,hb⟩;replace hbk:=hbk.trans (hb.mono hbk.size);clear hb;have z0:=(HZk.out _ hbk).cell 0 _ rfl;have z1:=(HZk.out _ hbk).cell 1 _ rfl;have z2:=(HZk.out _ hbk).cell 2 _ rfl;have z3:=(HZk.out _ hbk).cell 3 _ rfl;have g0:=(HZk.out _ hbk).frozen 0;have g1:=(HZk.out _ hbk).frozen 1;have g2:=(HZk.out _ hbk).frozen 2;have g3:=(HZk.out _ hbk).frozen 3))
  all_goals
   go_wp2
   exact Ai6 (v:=.tuple #[.agg #[.int .i64 o1,.int .i64 o2,.int .i64 o3,.int .i64 o4],.bool o5]) (by simp[results,Tryz.f130,go_sem,z0,z1,z2,z3]) rfl ⟨rfl,A1p (HZk.out _ hbk).old (b:=w.heap.size+1) (by omega) _ _ _ _⟩
end
section
open Go.RowKit
def A9k (h0:Nat)(N:Nat)(I:Nat->World->Prop)(Ix:Code->Nat->World->Prop)(k:Nat)(W:World):Exit->Act->World->Prop
 | .normal,_,B=>KeepsFrom h0 W B/\k<N/\I (k+1) B
 | .ret,_,B=>KeepsFrom h0 W B/\Ix .ret k B
 | .exit id,_,B=>KeepsFrom h0 W B/\Ix (.exit id) k B
 | .goto t,_,B=>KeepsFrom h0 W B/\Ix (.goto t) k B
 | .panic _,_,_=>False
 | .outgrown,_,_=>False
variable {F : Fence} {n : Nat} {P : Program}
def Bb (fn:FuncId)(tmps:Array Value)(ps:Array Tmp)(assign body:Code)(d:Nat)(st:LoopState)(pe:Option Code):Loop :=
 { state:=st,pending:=pe,fn:=fn,tmps:=tmps,params:=ps,assign:=assign,body:=body,defers:=d }
end
section
open Go.RowKit
def A8d (F:Fence)(n:Nat)(P:Program)(g:Nat)(lb:Array Value)(R:Nat->Array Value->Prop)(fini:Nat->Prop)(N:Nat)(Keep:Nat->World->Prop):Prop :=
 ∀(l:Nat) (J Jx:Nat->World->Prop) (W:World),
  (∀k A,J k A->Keep k A) ->
  (∀k A B,J k A->A.grownBy B none->J k B) ->
  (∀k v A,k<=N->R k v->J k A->YieldAt F (n-1) P l v A fun e B =>
   (e=.returned (.bool true)/\k<N/\J (k+1) B) \/(e=.returned (.bool false)/\Jx k B)) ->
  J 0 W ->
  CallsIn F n P g (#[.func (.yield l) #[] #[]]++lb) W fun e B=>(∃v,e=.returned v) /\((∃k,k<=N/\Jx k B) \/(∃k,k<=N/\fini k/\J k B))
variable {F : Fence} {n : Nat} {P : Program}
theorem A4i {g:Operand}{ps:Array Tmp}{assign body:Code}{Q:Exit->Act->World->Prop}{a:Act}{w:World}
 (hro:F.round=none) (h1:1<=n) {gf:Nat} {lb:Array Value} (hg:a.eval g=.func (.func gf) #[] lb) (hFg:F.fn gf) (eg:∀args w,(callFunc gf args).run P w=.ok (.enter gf args) w)
 {R:Nat->Array Value->Prop} {fini:Nat->Prop} {N:Nat} {Keep:Nat->World->Prop} (hseq:A8d F (n-1) P gf lb R fini N Keep) (hps:∀k v,R k v->v.size=ps.size)
 (I:Nat->World->Prop) (Ix:Code->Nat->World->Prop) (hI:OwnFrom w.heap.size I) (hIx:∀c,OwnFrom w.heap.size (Ix c)) (hIb:∀k A,I k A->Keep k A) (hi0:I 0 w) (a₁:Nat->Array Value->Act)
 (hassign:∀(l k:Nat) (v:Array Value) (W:World) (K:Act->World->Prop),R k v->K (a₁ k v) W ->
  assign.wpIn (F.inRound l) (n-1-1) P (Exit.then K (fun _ _ _=>False)) { tmps:=(ps.zip v).foldl (fun t (p,v)=>t.setIfInBounds p v) a.tmps,defers:=[] } W)
 (hbody:∀(l k:Nat) (v:Array Value) (W:World),k<=N->R k v->I k W->body.wpIn (F.inRound l) (n-1-1) P (A9k w.heap.size N I Ix k W) (a₁ k v) W)
 (hdone:∀(D k:Nat) (W:World),w.heap.size<=D->k<=N->fini k->I k W->W.heap[D]?=some (.deferred (some []))->Q .normal { a with defers:={ target:=.collected D,args:=#[] } :: a.defers } W)
 (hstop:∀(D:Nat) (c:Code) (k:Nat) (W:World),w.heap.size<=D->k<=N->Ix c k W->W.heap[D]?=some (.deferred (some []))->c.wpIn F n P Q { a with defers:={ target:=.collected D,args:=#[] } :: a.defers } W) :
 (Code.rangeFunc g ps assign body).wpIn F n P Q a w:=by
 refine wpIn_rangeFunc (fun fn hfn=>?_)
 rw[hro];obtain⟨s,hs⟩:∃s,w.heap.size=s:=⟨_,rfl⟩;obtain⟨W1,hW1⟩:∃W1,(w.alloc (.deferred (some []))).alloc (.loop (Bb fn a.tmps ps assign body s .ready none))=W1:=⟨_,rfl⟩
 have hg1:w.grownBy W1 none:=by
  rw[<-hW1];exact(Ak3 w _ none).trans (Ak3 _ _ none)
 have hL1:W1.heap[s+1]?=some (.loop (Bb fn a.tmps ps assign body s .ready none)):=by
  rw[<-hW1,<-hs];have:=World.alloc_heap_new (w.alloc (.deferred (some []))) (.loop (Bb fn a.tmps ps assign body w.heap.size .ready none))
  rwa [Aim]at this
 have hD1:W1.heap[s]?=some (.deferred (some [])):=by
  rw[<-hW1,<-hs];exact(Am1 _ _ _ (by simp)).trans (World.alloc_heap_new w _)
 have hI1:I 0 W1:=hI 0 w W1 none hi0 hg1 (fun r e=>by cases e)
 rw[hs]at hI hIx hbody hdone hstop
 refine⟨s+1,[{ target:=.collected s,args:=#[] }],W1,{ target:=.fn (.func gf) lb,args:=#[.func (.yield (s+1)) #[] #[]] },W1,gf,
  #[.func (.yield (s+1)) #[] #[]]++lb,W1,?_,?_,?_,?_,fun _=>h1,?_⟩
 ·rw[<-hW1,<-hs];exact run_enterLoop_outer _ _ _ _ _
 ·simp only[resolve,hg];simp[go_sem]
 ·intro f' hf';simp[Target.leads]at hf';subst hf';exact hFg
 ·simp[invoke,go_sem,eg]
 ·refine(hseq (s+1)
   (fun k W=>I k W/\W.heap[s+1]?=some (.loop (Bb fn a.tmps ps assign body s .ready none))/\W.heap[s]?=some (.deferred (some [])))
   (fun k W=>∃c,Ix c k W/\W.heap[s+1]?=some (.loop (Bb fn a.tmps ps assign body s .done (some c)))/\W.heap[s]?=some (.deferred (some [])))
   W1 (fun k A h=>hIb k A h.1) ?_ ?_ ⟨hI1,hL1,hD1⟩).mono ?_
  ·rintro k A B ⟨hi,hl,hd⟩ hgr
   exact⟨hI k A B none hi hgr (fun r e=>by cases e),(hgr.block _ (Ai2.1 hl).1 (by simp)).trans hl,(hgr.block _ (Ai2.1 hd).1 (by simp)).trans hd⟩
  ·
   rintro k v A hk hR ⟨hi,hl,hd⟩;have hlt:s+1<A.heap.size:=(Ai2.1 hl).1
   refine⟨fn,_,assign,body,run_yield (P:=P) (args:=v) hl (hps k v hR),roundIn_of_wpIn hfn (hassign _ k v A _ hR ⟨_,run_beginRound hl rfl,?_⟩)⟩
   obtain⟨A2,hA2⟩:∃A2,A.putObj (s+1) (.loop { Bb fn a.tmps ps assign body s .ready none with state:=.busy })=A2:=⟨_,rfl⟩
   have hl2:A2.heap[s+1]?=some (.loop { Bb fn a.tmps ps assign body s .ready none with state:=.busy }):=by rw[<-hA2];exact World.putObj_heap_same hlt
   have hd2:A2.heap[s]?=some (.deferred (some [])):=by rw[<-hA2];exact(World.putObj_heap_other (by omega)).trans hd
   have hi2:I k A2:=by rw[<-hA2];exact hI.putObj _ hi (by omega) hl rfl
   rw[hA2]
   refine wpIn_mono (hbody (s+1) k v A2 hk hR hi2) ?_
   have ends:∀(jump:Option Code) (B:World),KeepsFrom s A2 B->B.heap[s+1]?=some (.loop { Bb fn a.tmps ps assign body s .ready none with state:=.busy }) /\
    (Instr.endRound (s+1) jump).run P B=.ok (.bool jump.isNone) (B.putObj (s+1) (.loop (Bb fn a.tmps ps assign body s (if jump.isNone then .ready else .done) jump))) /\
    (B.putObj (s+1) (.loop (Bb fn a.tmps ps assign body s (if jump.isNone then .ready else .done) jump))).heap[s+1]?=some (.loop (Bb fn a.tmps ps assign body s (if jump.isNone then .ready else .done) jump)) /\
    (B.putObj (s+1) (.loop (Bb fn a.tmps ps assign body s (if jump.isNone then .ready else .done) jump))).heap[s]?=some (.deferred (some [])):=by
    intro jump B hk3;have hl3:=hk3.same _ _ (by omega) hl2 rfl
    exact⟨hl3,run_endRound (P:=P) jump hl3,World.putObj_heap_same (Ai2.1 hl3).1,(World.putObj_heap_other (by omega)).trans (hk3.same _ _ (Ai3 _) hd2 rfl)⟩
   intro e a3 B hp
   cases e with
   | normal =>
     obtain⟨hk3,hkN,hi3⟩:=hp;obtain⟨hl3,hr,hl4,hd4⟩:=ends none B hk3
     exact⟨_,_,hr,.inl ⟨rfl,hkN,hI.putObj _ hi3 (by omega) hl3 rfl,hl4,hd4⟩⟩
   | ret =>
     obtain⟨hk3,hi3⟩:=hp;obtain⟨hl3,hr,hl4,hd4⟩:=ends (some .ret) B hk3
     exact⟨_,_,hr,.inr ⟨rfl,.ret,(hIx _).putObj _ hi3 (by omega) hl3 rfl,hl4,hd4⟩⟩
   | exit id =>
     obtain⟨hk3,hi3⟩:=hp;obtain⟨hl3,hr,hl4,hd4⟩:=ends (some (.exit id)) B hk3
     exact⟨_,_,hr,.inr ⟨rfl,.exit id,(hIx _).putObj _ hi3 (by omega) hl3 rfl,hl4,hd4⟩⟩
   | goto t =>
     obtain⟨hk3,hi3⟩:=hp;obtain⟨hl3,hr,hl4,hd4⟩:=ends (some (.goto t)) B hk3
     exact⟨_,_,hr,.inr ⟨rfl,.goto t,(hIx _).putObj _ hi3 (by omega) hl3 rfl,hl4,hd4⟩⟩
   | panic ch=>exact hp.elim
   | outgrown=>exact hp.elim
  ·
   rintro e B ⟨⟨v,rfl⟩,(⟨k,hkN,c,hi,hl,hd⟩ |⟨k,hkN,hf,hi,hl,hd⟩)⟩
   ·exact⟨some c,_,run_endLoop (P:=P) hl (by simp[Bb]),hstop _ c k _ (Ai3 _) hkN ((hIx c).putObj _ hi (by omega) hl rfl) ((World.putObj_heap_other (by omega)).trans hd)⟩
   ·exact⟨none,_,run_endLoop (P:=P) hl (by simp[Bb]),hdone _ k _ (Ai3 _) hkN hf (hI.putObj _ hi (by omega) hl rfl) ((World.putObj_heap_other (by omega)).trans hd)⟩
theorem Fc {b:Frame}{a:Act}{k:List Item}{cs:List Frame}{w:World}{c:Code}:step P (lone (b.atR a (.code (.scope c) :: k)) cs w)=.next (lone (b.atR a (.code c :: .inScope c :: k)) cs w) :=
 step_lone_go (by simp[stepG,stepG.exec,Frame.atR])
theorem Uo {b:Frame}{a:Act}{k:List Item}{cs:List Frame}{w:World}{c:Code}:step P (lone (b.atR a (.inScope c :: k)) cs w)=.next (lone (b.atR a k) cs w) :=
 step_lone_go (by simp[stepG,stepG.exec,Frame.atR])
theorem A4j {Q:Exit->Act->World->Prop}{a:Act}{w:World}{c:Code}(h:c.wpIn F n P (Exit.noGoto Q) a w):(Code.scope c).wpIn F n P Q a w:=by
 intro b k cs hro hb hr;have h0:(lone (b.atR a (.code (.scope c) :: k)) cs w).fenced P F:=fenced_calm hb hr rfl;obtain⟨e,a₁,w₁,hq,harr⟩:=h b (.inScope c :: k) cs hro hb hr
 cases e with
 | normal=>exact⟨.normal,a₁,w₁,hq,.head h0 Fc (StepsIn.trans harr (.one (fenced_calm hb hr rfl) Uo))⟩
 | exit id =>
   have hx:exitTo id (.inScope c :: k)=exitTo id k:=by simp[exitTo]
   exact⟨.exit id,a₁,w₁,hq,fun k' hk=>.head h0 Fc (harr.1 k' (by rw[hx];exact hk)),
    fun hr' hk=>let ⟨k₁,h1,h2⟩:=harr.2 hr' (by rw[hx];exact hk);⟨k₁,h1,.head h0 Fc h2⟩⟩
 | goto l=>exact hq.elim
 | ret=>exact⟨_,a₁,w₁,hq,.of_steps (.one h0 Fc) harr⟩
 | panic ch=>exact⟨_,a₁,w₁,hq,.of_steps (.one h0 Fc) harr⟩
 | outgrown=>exact⟨_,a₁,w₁,hq,.of_steps (.one h0 Fc) harr⟩
end
section
open Go.RowKit
structure Ce (s:Nat)(A B:World):Prop where
 size:A.heap.size<=B.heap.size
 blk:∀j,s<=j->j<A.heap.size->B.heap[j]?=A.heap[j]?
theorem Ce.refl (s:Nat)(A:World):Ce s A A:=⟨Ai3 _,fun _ _ _=>rfl⟩
theorem Ce.trans {s:Nat}{A B C:World}(h:Ce s A B)(k:Ce s B C):Ce s A C:=⟨Ai5 h.size k.size,fun j hj hl=>(k.blk j hj (Ai9 hl h.size)).trans (h.blk j hj hl)⟩
theorem Ce.grown {s:Nat}{A B:World}{row:Option Nat}(h:A.grownBy B row)(hr:∀r,row=some r->r<s):Ce s A B:=⟨h.size,fun j hj hl=>h.block j hl (fun e=>by have:=hr j e.symm;omega)⟩
theorem Ce.Aw {s:Nat}{A B:World}(h:Below A.heap.size A B):Ce s A B:=⟨h.size,fun j _ hl=>h.block j hl⟩
theorem Ce.keeps {s:Nat}{A B:World}(h:Ce s A B):KeepsFrom s A B:=⟨h.size,fun k o hB hk _=>(h.blk k hB (Ai2.1 hk).1).trans hk⟩
theorem Ce.up {s s':Nat}{A B:World}(h:Ce s A B)(hs:s<=s'):Ce s' A B:=⟨h.size,fun j hj hl=>h.blk j (Ai5 hs hj) hl⟩
theorem Ma {A B:World}(h:Below A.heap.size A B)(row:Option Nat):A.grownBy B row:=⟨h.os,h.tape,h.output,h.size,fun k hk _=>h.block k hk⟩
def Xb (B:Nat)(I:Nat->World->Prop):Prop:=∀s W W' row,I s W->W.grownBy W' row ->(∀r,row=some r->B<=r)->I s W'
theorem Xb.from {B:Nat}{I:Nat->World->Prop}(h:Xb B I):OwnFrom B I:=fun s W W' row hs hg hr=>h s W W' row hs hg (fun r e=>(hr r e).1)
def A6u (h0:Nat)(N:Nat)(I:Nat->World->Prop)(Ix:Code->Nat->World->Prop)(k:Nat)(W:World):Exit->Act->World->Prop
 | .normal,_,B=>Ce h0 W B/\k<N/\I (k+1) B
 | .ret,_,B=>Ce h0 W B/\Ix .ret k B
 | .exit id,_,B=>Ce h0 W B/\Ix (.exit id) k B
 | .goto t,_,B=>Ce h0 W B/\Ix (.goto t) k B
 | .panic _,_,_=>False
 | .outgrown,_,_=>False
def A8c (F:Fence)(n:Nat)(P:Program)(g:Nat)(lb:Array Value)(R:Nat->Array Value->Prop)(fini:Nat->Prop)(N:Nat)(Keep:Nat->World->Prop):Prop :=
 ∀(l:Nat) (J Jx:Nat->World->Prop) (W:World),
  l<W.heap.size ->
  (∀k A,J k A->Keep k A) ->
  (∀k A B row,J k A->A.grownBy B row ->(∀r,row=some r->W.heap.size<=r)->J k B) ->
  (∀k v A,k<=N->R k v->J k A->YieldAt F (n-1) P l v A fun e B =>
   (e=.returned (.bool true)/\k<N/\Ce (l+1) A B/\J (k+1) B) \/(e=.returned (.bool false)/\Jx k B)) ->
  J 0 W ->
  CallsIn F n P g (#[.func (.yield l) #[] #[]]++lb) W fun e B=>(∃v,e=.returned v) /\((∃k,k<=N/\Jx k B) \/(∃k,k<=N/\fini k/\J k B))
variable {F : Fence} {n : Nat} {P : Program}
theorem A4h {g:Operand}{ps:Array Tmp}{assign body:Code}{Q:Exit->Act->World->Prop}{a:Act}{w:World}
 (hro:F.round=none) (h1:1<=n) {gf:Nat} {lb:Array Value} (hg:a.eval g=.func (.func gf) #[] lb) (hFg:F.fn gf) (eg:∀args w,(callFunc gf args).run P w=.ok (.enter gf args) w)
 {R:Nat->Array Value->Prop} {fini:Nat->Prop} {N:Nat} {Keep:Nat->World->Prop} (hseq:A8c F (n-1) P gf lb R fini N Keep) (hps:∀k v,R k v->v.size=ps.size)
 (I:Nat->World->Prop) (Ix:Code->Nat->World->Prop) (hI:Xb w.heap.size I) (hIx:∀c,OwnFrom w.heap.size (Ix c)) (hIb:∀k A,I k A->Keep k A) (hi0:I 0 w) (RA:Nat->Array Value->Act->World->Prop) (hRA:∀v a₁,OwnFrom w.heap.size (fun k W=>RA k v a₁ W))
 (hassign:∀(l k:Nat) (v:Array Value) (W:World) (K:Act->World->Prop),k<=N->R k v->I k W ->(∀a₁ W₁,Ce w.heap.size W W₁->RA k v a₁ W₁->K a₁ W₁) ->
  assign.wpIn (F.inRound l) (n-1-1) P (Exit.then K (fun _ _ _=>False)) { tmps:=(ps.zip v).foldl (fun t (p,v)=>t.setIfInBounds p v) a.tmps,defers:=[] } W)
 (hbody:∀(l k:Nat) (v:Array Value) (a₁:Act) (W:World),k<=N->R k v->RA k v a₁ W->body.wpIn (F.inRound l) (n-1-1) P (A6u w.heap.size N I Ix k W) a₁ W)
 (hdone:∀(D k:Nat) (W:World),w.heap.size<=D->k<=N->fini k->I k W->W.heap[D]?=some (.deferred (some []))->Q .normal { a with defers:={ target:=.collected D,args:=#[] } :: a.defers } W)
 (hstop:∀(D:Nat) (c:Code) (k:Nat) (W:World),w.heap.size<=D->k<=N->Ix c k W->W.heap[D]?=some (.deferred (some []))->c.wpIn F n P Q { a with defers:={ target:=.collected D,args:=#[] } :: a.defers } W) :
 (Code.rangeFunc g ps assign body).wpIn F n P Q a w:=by
 have hIA:=hI;replace hI:=hI.from
 refine wpIn_rangeFunc (fun fn hfn=>?_)
 rw[hro];obtain⟨s,hs⟩:∃s,w.heap.size=s:=⟨_,rfl⟩;obtain⟨W1,hW1⟩:∃W1,(w.alloc (.deferred (some []))).alloc (.loop (Bb fn a.tmps ps assign body s .ready none))=W1:=⟨_,rfl⟩
 have hg1:w.grownBy W1 none:=by
  rw[<-hW1];exact(Ak3 w _ none).trans (Ak3 _ _ none)
 have hL1:W1.heap[s+1]?=some (.loop (Bb fn a.tmps ps assign body s .ready none)):=by
  rw[<-hW1,<-hs];have:=World.alloc_heap_new (w.alloc (.deferred (some []))) (.loop (Bb fn a.tmps ps assign body w.heap.size .ready none))
  rwa [Aim]at this
 have hD1:W1.heap[s]?=some (.deferred (some [])):=by
  rw[<-hW1,<-hs];exact(Am1 _ _ _ (by simp)).trans (World.alloc_heap_new w _)
 have hI1:I 0 W1:=hI 0 w W1 none hi0 hg1 (fun r e=>by cases e)
 rw[hs]at hI hIA hIx hRA hassign hbody hdone hstop
 refine⟨s+1,[{ target:=.collected s,args:=#[] }],W1,{ target:=.fn (.func gf) lb,args:=#[.func (.yield (s+1)) #[] #[]] },W1,gf,
  #[.func (.yield (s+1)) #[] #[]]++lb,W1,?_,?_,?_,?_,fun _=>h1,?_⟩
 ·rw[<-hW1,<-hs];exact run_enterLoop_outer _ _ _ _ _
 ·simp only[resolve,hg];simp[go_sem]
 ·intro f' hf';simp[Target.leads]at hf';subst hf';exact hFg
 ·simp[invoke,go_sem,eg]
 ·refine(hseq (s+1)
   (fun k W=>I k W/\W.heap[s+1]?=some (.loop (Bb fn a.tmps ps assign body s .ready none))/\W.heap[s]?=some (.deferred (some [])))
   (fun k W=>∃c,Ix c k W/\W.heap[s+1]?=some (.loop (Bb fn a.tmps ps assign body s .done (some c)))/\W.heap[s]?=some (.deferred (some [])))
   W1 (Ai2.1 hL1).1 (fun k A h=>hIb k A h.1) ?_ ?_ ⟨hI1,hL1,hD1⟩).mono ?_
  ·rintro k A B row ⟨hi,hl,hd⟩ hgr hrow;have hW1:s+1<W1.heap.size:=(Ai2.1 hL1).1;have hne:∀j,j<=s+1->some j≠row:=fun j hj e=>by have:=hrow j e.symm;omega
   exact⟨hIA k A B row hi hgr (fun r e=>by have:=hrow r e;omega),(hgr.block _ (Ai2.1 hl).1 (hne _ (Ai3 _))).trans hl,(hgr.block _ (Ai2.1 hd).1 (hne _ (by omega))).trans hd⟩
  ·
   rintro k v A hk hR ⟨hi,hl,hd⟩;have hlt0:s+1<A.heap.size:=(Ai2.1 hl).1
   refine⟨fn,_,assign,body,run_yield (P:=P) (args:=v) hl (hps k v hR),roundIn_of_wpIn hfn (hassign _ k v A _ hk hR hi fun a₁ A1 hal hRA1=>?_)⟩
   have hl1:=(hal.blk _ (by omega) hlt0).trans hl
   have hd1:=(hal.blk _ (Ai3 _) (by omega)).trans hd
   have hlt:s+1<A1.heap.size:=Ai9 hlt0 hal.size
   refine⟨_,run_beginRound hl1 rfl,?_⟩
   obtain⟨A2,hA2⟩:∃A2,A1.putObj (s+1) (.loop { Bb fn a.tmps ps assign body s .ready none with state:=.busy })=A2:=⟨_,rfl⟩
   have hl2:A2.heap[s+1]?=some (.loop { Bb fn a.tmps ps assign body s .ready none with state:=.busy }):=by rw[<-hA2];exact World.putObj_heap_same hlt
   have hd2:A2.heap[s]?=some (.deferred (some [])):=by rw[<-hA2];exact(World.putObj_heap_other (by omega)).trans hd1
   have hlo:Ce (s+1+1) A A2:=(hal.up (by omega)).trans (by rw[<-hA2];exact Ce.grown (grownBy_putObj' A1 (s+1) _) (fun r e=>by cases e;omega))
   have hi2:RA k v a₁ A2:=by rw[<-hA2];exact(hRA v a₁).putObj _ hRA1 (by omega) hl1 rfl
   rw[hA2]
   refine wpIn_mono (hbody (s+1) k v a₁ A2 hk hR hi2) ?_
   have ends:∀(jump:Option Code) (B:World),KeepsFrom s A2 B->B.heap[s+1]?=some (.loop { Bb fn a.tmps ps assign body s .ready none with state:=.busy }) /\
    (Instr.endRound (s+1) jump).run P B=.ok (.bool jump.isNone) (B.putObj (s+1) (.loop (Bb fn a.tmps ps assign body s (if jump.isNone then .ready else .done) jump))) /\
    (B.putObj (s+1) (.loop (Bb fn a.tmps ps assign body s (if jump.isNone then .ready else .done) jump))).heap[s+1]?=some (.loop (Bb fn a.tmps ps assign body s (if jump.isNone then .ready else .done) jump)) /\
    (B.putObj (s+1) (.loop (Bb fn a.tmps ps assign body s (if jump.isNone then .ready else .done) jump))).heap[s]?=some (.deferred (some [])):=by
    intro jump B hk3;have hl3:=hk3.same _ _ (by omega) hl2 rfl
    exact⟨hl3,run_endRound (P:=P) jump hl3,World.putObj_heap_same (Ai2.1 hl3).1,(World.putObj_heap_other (by omega)).trans (hk3.same _ _ (Ai3 _) hd2 rfl)⟩
   intro e a3 B hp
   cases e with
   | normal =>
     obtain⟨hk3,hkN,hi3⟩:=hp;obtain⟨hl3,hr,hl4,hd4⟩:=ends none B hk3.keeps
     exact⟨_,_,hr,.inl ⟨rfl,hkN,(hlo.trans (hk3.up (by omega))).trans (Ce.grown (grownBy_putObj' B (s+1) _) (fun r e=>by cases e;omega)),hI.putObj _ hi3 (by omega) hl3 rfl,hl4,hd4⟩⟩
   | ret =>
     obtain⟨hk3,hi3⟩:=hp;obtain⟨hl3,hr,hl4,hd4⟩:=ends (some .ret) B hk3.keeps
     exact⟨_,_,hr,.inr ⟨rfl,.ret,(hIx _).putObj _ hi3 (by omega) hl3 rfl,hl4,hd4⟩⟩
   | exit id =>
     obtain⟨hk3,hi3⟩:=hp;obtain⟨hl3,hr,hl4,hd4⟩:=ends (some (.exit id)) B hk3.keeps
     exact⟨_,_,hr,.inr ⟨rfl,.exit id,(hIx _).putObj _ hi3 (by omega) hl3 rfl,hl4,hd4⟩⟩
   | goto t =>
     obtain⟨hk3,hi3⟩:=hp;obtain⟨hl3,hr,hl4,hd4⟩:=ends (some (.goto t)) B hk3.keeps
     exact⟨_,_,hr,.inr ⟨rfl,.goto t,(hIx _).putObj _ hi3 (by omega) hl3 rfl,hl4,hd4⟩⟩
   | panic ch=>exact hp.elim
   | outgrown=>exact hp.elim
  ·
   rintro e B ⟨⟨v,rfl⟩,(⟨k,hkN,c,hi,hl,hd⟩ |⟨k,hkN,hf,hi,hl,hd⟩)⟩
   ·exact⟨some c,_,run_endLoop (P:=P) hl (by simp[Bb]),hstop _ c k _ (Ai3 _) hkN ((hIx c).putObj _ hi (by omega) hl rfl) ((World.putObj_heap_other (by omega)).trans hd)⟩
   ·exact⟨none,_,run_endLoop (P:=P) hl (by simp[Bb]),hdone _ k _ (Ai3 _) hkN hf (hI.putObj _ hi (by omega) hl rfl) ((World.putObj_heap_other (by omega)).trans hd)⟩
end
end Go.Proofs.YtlfleicchbgcmaaGreat
