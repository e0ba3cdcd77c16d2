import Derived.Test.YtlfleicchbgcmaaGreatZr19
import Derived.Test.YtlfleicchbgcmaaGreatZr0
import Derived.Test.YtlfleicchbgcmaaGreatZrK
set_option linter.all false
set_option maxHeartbeats 16000000
set_option maxRecDepth 100000
namespace Go.Proofs.YtlfleicchbgcmaaGreat
section
open Go.RowKit Go.Sort
attribute [local go_sem ↓] Go.wp_at_zero Go.wp_at_succ
section
variable {α : Type} [Inhabited α] (lt : α -> α -> Bool)
theorem Zi (d:Array α)(i n:Nat):i<N6 lt d i n:=by
 unfold N6
 split<;>omega
theorem A4v (n:Nat):∀(f g:Nat) (d:Array α) (i:Nat),n<f+i->n<g+i->Dk lt n f d i=Dk lt n g d i:=by
 intro f
 induction f with
 | zero =>
   intro g d i h h'
   cases g with
   | zero=>rfl
   | succ g=>unfold Dk;rw[Apb (by omega)]
 | succ f ih =>
   intro g d i h h'
   cases g with
   | zero=>unfold Dk;rw[Apb (by omega)]
   | succ g =>
     unfold Dk
     by_cases h0:n<=2*i+1
     ·rw[Apb h0,Apb h0]
     ·rw[Ap8 h0,Ap8 h0];have:=Zi lt d i n
      by_cases hl:lt d[N6 lt d i n]! d[i]! = true
      ·rw[Apb hl,Apb hl]
       exact ih _ _ _ (by omega) (by omega)
      ·rw[Ap8 hl,Ap8 hl]
theorem K8 (n:Nat)(d:Array α)(i:Nat)(h:n<=2*i+1\/lt d[N6 lt d i n]! d[i]! = false):Dk lt n (n+1) d i=d:=by
 unfold Dk
 rcases h with h|h
 ·rw[Apb h]
 ·by_cases h0:n<=2*i+1
  ·rw[Apb h0]
  ·rw[Ap8 h0,Ap8 (by rw[h];simp)]
theorem A1y (n:Nat)(d:Array α)(i:Nat)(h0:2*i+1<n)(h:lt d[N6 lt d i n]! d[i]! = true):Dk lt n (n+1) d i=Dk lt n (n+1) (swp d (N6 lt d i n) i) (N6 lt d i n):=by
 rw[Dk,Ap8 (by omega),Apb h]
 have:=Zi lt d i n
 exact A4v lt n _ _ _ _ (by omega) (by omega)
theorem A5t (n f:Nat)(d:Array α)(i:Nat):(Dk lt n f d i).size=d.size:=by
 induction f generalizing d i with
 | zero=>rfl
 | succ f ih =>
   unfold Dk
   split
   ·rfl
   ·split
    ·rw[ih,swp_size]
    ·rfl
end
theorem Af1 (hb_ g n cap i m:Nat)(d:Array Ae)(hn:d.size=n)(hi:i<n)(hm:m<=n)(hn2:n<=1000)(w:World)(hne:hb_≠g)(H:HpS hb_ g n cap w)(R:E1 g cap d w) :
 Calls Vp.prog 61 #[.iface 79 (.pointer (some ⟨hb_,0,none⟩)),.int .i64 i,.int .i64 m] w fun e w'=>(∃b:Bool,e=.returned (.bool b))/\C7 g w w'/\E1 g cap (Dk Ec m (m+1) d i) w':=by
 have HH:=Aoy H;have HR:=Aoy R;have HN:=Aoy hn;have mL:=A2p (.pointer (some ⟨hb_,0,none⟩));have mS:=Tv (.pointer (some ⟨hb_,0,none⟩));clear H R hn
 go_enter Vp.func61,Tryz.ntmps61
 go_wp2
 go_loopw [7] (fun vi wr=>∃(k:Nat) (d':Array Ae),k<n/\vi=.int .i64 k/\Hid (d'.size=n)/\Hid (C7 g w wr)/\Hid (E1 g cap d' wr)/\Hid (Dk Ec m (m+1) d' k=Dk Ec m (m+1) d i)) (fun vi _=>n-(intOf vi).toNat)
 case atStart=>exact⟨i,d,hi,rfl,HN.out,C7.refl _ _,HR.out,rfl⟩
 case round =>
  obtain⟨k,d',hk,rfl,HS,HO,HRW,HE⟩:=hrel;have HSS:=Aoy (HH.out.only HO.out hne);have w0:IntKind.i64.wrap (2 *(k:Int))=2 *(k:Int):=Aq4 _ (by omega)
  have w1:IntKind.i64.wrap (2 *(k:Int)+1)=2 *(k:Int)+1:=Aq4 _ (by omega)
  have w2:IntKind.i64.wrap (2 *(k:Int)+1+1)=2 *(k:Int)+1+1:=Aq4 _ (by omega)
  by_cases h0:m<=2*k+1
  ·have f0:decide ((m:Int)<=2 *(k:Int)+1)=true:=Apj (by omega)
   have HST:Hid (Dk Ec m (m+1) d' k=d'):=K8 Ec m d' k (.inl h0);clear h0 w2
   go_wp2
   go_ret
   exact⟨⟨_,rfl⟩,HO.out,by rw[<-HE.out,HST.out];exact HRW.out⟩
  ·have f0:decide ((m:Int)<=2 *(k:Int)+1)=false:=Apy (by omega)
   have f1:decide (2 *(k:Int)+1<0)=false:=Apy (by omega)
   obtain⟨q,hq⟩:∃q,N6 Ec d' k m=q:=⟨_,rfl⟩;have hqk:k<q:=by rw[<-hq];exact Zi Ec d' k m
   have hqm:q<m:=by rw[<-hq];unfold N6;split<;>omega
   obtain⟨bb,hbb⟩:∃bb:Bool,(decide (2*k+2<m) && Ec d'[2*k+2]! d'[2*k+1]!)=bb:=⟨_,rfl⟩
   have HQ0:Hid (bb=false ->(q:Int)=2 *(k:Int)+1):=fun h=>by
    rw[<-hq,N6,Ap8 (fun hh=>by rw[<-hbb,Apj hh.1,hh.2]at h;cases h)]
    omega
   have HQ1:Hid (bb=true ->(q:Int)=2 *(k:Int)+1+1):=fun h=>by
    rw[<-hbb,Ap7,Apm]at h;rw[<-hq,N6,Apb h]
    omega
   go_upto_region 6 with fail
   go_cut [33]from 25 to 34 (fun pv wx=>pv=.bool bb/\Hid (Below wr.heap.size wr wx))
   case first =>
    by_cases h2:2*k+2<m
    ·have f2:decide (2 *(k:Int)+1+1<m)=true:=Apj (by omega)
     have CL:=Zt hb_ g n cap (2*k+2) (2*k+1) d' HS.out (by omega) (by omega) wr HSS.out HRW.out
     have hb2:Ec d'[2*k+2]! d'[2*k+1]! = bb:=by rw[<-hbb,Apj h2,Ash]
     rw[hb2]at CL;have e2:((2*k+2:Nat):Int)=2 *(k:Int)+1+1:=by omega
     have e1:((2*k+1:Nat):Int)=2 *(k:Int)+1:=by omega
     rw[e1,e2]at CL;replace CL:=Aoy CL;clear h0 hq hqk hqm h2 hbb hb2 e1 e2
     go_wp2_with fail
     refine CL.out.mono ?_
     rintro e w2 ⟨rfl,hb2⟩;have HB2:=Aoy hb2;clear hb2
     cases bb
     ·go_wp2
      go_meet
      exact⟨rfl,HB2.out⟩
     ·go_wp2
      go_meet
      exact⟨rfl,HB2.out⟩
    ·have f2:decide (2 *(k:Int)+1+1<m)=false:=Apy (by omega)
     obtain rfl:bb=false:=by rw[<-hbb,Apy h2];rfl
     clear h0 hq hqk hqm h2 hbb
     go_wp2
     go_meet
     exact⟨rfl,Aph _ _⟩
   case rest =>
    obtain⟨rfl,HBC⟩:=hcut;have HO2:=Aoy (HO.out.trans (C7.Ay HBC.out));have HR2:=Aoy (HRW.out.step HBC.out);have HS2:=Aoy (HSS.out.step HBC.out);clear f0 f1 w0 w1 w2 hbb;have CL:=Zt hb_ g n cap q k d' HS.out (by omega) (by omega) wc HS2.out HR2.out
    have hqn:q<n:=by omega
    cases bb with
    | false =>
      have hz:=HQ0.out rfl;clear HQ0 HQ1
      cases hl:Ec d'[q]! d'[k]! with
      | false =>
        have HST:Hid (Dk Ec m (m+1) d' k=d'):=K8 Ec m d' k (.inr (by rw[hq];exact hl))
        rw[hl,hz]at CL;replace CL:=Aoy CL;clear hl hq h0 hz hqk hqm hqn
        go_wp2_with fail
        refine CL.out.mono ?_
        rintro e w3 ⟨rfl,hb3⟩;have HB3:=Aoy hb3
        go_wp2
        go_ret
        exact⟨⟨_,rfl⟩,HO2.out.trans (C7.Ay HB3.out),by rw[<-HE.out,HST.out];exact HR2.out.step HB3.out⟩
      | true =>
        have HGO:Hid (Dk Ec m (m+1) (swp d' q k) q=Dk Ec m (m+1) d i):=by
         have:=A1y Ec m d' k (by omega) (by rw[hq];exact hl)
         rw[hq]at this
         exact this.symm.trans HE.out
        have CS:Hid (∀W,Below wc.heap.size wc W->Calls Vp.prog 167 #[.pointer (some ⟨hb_,0,none⟩),.int .i64 k,.int .i64 q] W fun e w'=>e=.returned (.tuple #[])/\C7 g W w'/\E1 g cap (swp d' q k) w'):=fun W hbw=>by
         have:=Sg hb_ g n cap k q d' HS.out (by omega) (by omega) W (HS2.out.step hbw) (HR2.out.step hbw)
         rwa [Uq d' (by have:=HS.out;omega) (by have:=HS.out;omega)]at this
        have HSZ:Hid ((swp d' q k).size=n):=(swp_size _ _ _).trans HS.out;rw[hl,hz]at CL;rw[hz]at CS;replace CL:=Aoy CL;have HZ:=Aoy hz;clear hl hq h0 hz
        go_wp2_with fail
        refine CL.out.mono ?_
        rintro e w3 ⟨rfl,hb3⟩;have CS2:=Aoy (CS.out w3 hb3);have HO3:=Aoy (HO2.out.trans (C7.Ay hb3));clear hb3 CL CS
        go_wp2_with fail
        refine CS2.out.mono ?_
        rintro e w4 ⟨rfl,ho4,hr4⟩;have HO4:=Aoy (HO3.out.trans ho4);have HR4:=Aoy hr4;clear ho4 hr4 CS2
        go_wp2
        go_roundw
        case rel=>exact⟨q,swp d' q k,hqn,by rw[HZ.out],HSZ.out,HO4.out,HR4.out,HGO.out⟩
        case measure =>
         have:=HZ.out;simp[intOf]
         omega
    | true =>
      have hz:=HQ1.out rfl;clear HQ0 HQ1
      cases hl:Ec d'[q]! d'[k]! with
      | false =>
        have HST:Hid (Dk Ec m (m+1) d' k=d'):=K8 Ec m d' k (.inr (by rw[hq];exact hl))
        rw[hl,hz]at CL;replace CL:=Aoy CL;clear hl hq h0 hz hqk hqm hqn
        go_wp2_with fail
        refine CL.out.mono ?_
        rintro e w3 ⟨rfl,hb3⟩;have HB3:=Aoy hb3
        go_wp2
        go_ret
        exact⟨⟨_,rfl⟩,HO2.out.trans (C7.Ay HB3.out),by rw[<-HE.out,HST.out];exact HR2.out.step HB3.out⟩
      | true =>
        have HGO:Hid (Dk Ec m (m+1) (swp d' q k) q=Dk Ec m (m+1) d i):=by
         have:=A1y Ec m d' k (by omega) (by rw[hq];exact hl)
         rw[hq]at this
         exact this.symm.trans HE.out
        have CS:Hid (∀W,Below wc.heap.size wc W->Calls Vp.prog 167 #[.pointer (some ⟨hb_,0,none⟩),.int .i64 k,.int .i64 q] W fun e w'=>e=.returned (.tuple #[])/\C7 g W w'/\E1 g cap (swp d' q k) w'):=fun W hbw=>by
         have:=Sg hb_ g n cap k q d' HS.out (by omega) (by omega) W (HS2.out.step hbw) (HR2.out.step hbw)
         rwa [Uq d' (by have:=HS.out;omega) (by have:=HS.out;omega)]at this
        have HSZ:Hid ((swp d' q k).size=n):=(swp_size _ _ _).trans HS.out;rw[hl,hz]at CL;rw[hz]at CS;replace CL:=Aoy CL;have HZ:=Aoy hz;clear hl hq h0 hz
        go_wp2_with fail
        refine CL.out.mono ?_
        rintro e w3 ⟨rfl,hb3⟩;have CS2:=Aoy (CS.out w3 hb3);have HO3:=Aoy (HO2.out.trans (C7.Ay hb3));clear hb3 CL CS
        go_wp2_with fail
        refine CS2.out.mono ?_
        rintro e w4 ⟨rfl,ho4,hr4⟩;have HO4:=Aoy (HO3.out.trans ho4);have HR4:=Aoy hr4;clear ho4 hr4 CS2
        go_wp2
        go_roundw
        case rel=>exact⟨q,swp d' q k,hqn,by rw[HZ.out],HSZ.out,HO4.out,HR4.out,HGO.out⟩
        case measure =>
         have:=HZ.out;simp[intOf]
         omega
end
section
open Go.RowKit
theorem Wr {ys:List Int}(hy:∀y,y∈ys->-1<=y/\y<=1)(k:Nat)(h:k<ys.length) :
 ∃y:Int,(ys.map Ax)[k]?=some (.int .i64 y) /\
  ((y=1/\cnt 1 (ys.take (k+1))=cnt 1 (ys.take k)+1/\cnt (-1) (ys.take (k+1))=cnt (-1) (ys.take k)/\cnt 0 (ys.take (k+1))=cnt 0 (ys.take k)) \/
   (y=-1/\cnt 1 (ys.take (k+1))=cnt 1 (ys.take k)/\cnt (-1) (ys.take (k+1))=cnt (-1) (ys.take k)+1/\cnt 0 (ys.take (k+1))=cnt 0 (ys.take k)) \/
   (y=0/\cnt 1 (ys.take (k+1))=cnt 1 (ys.take k)/\cnt (-1) (ys.take (k+1))=cnt (-1) (ys.take k)/\cnt 0 (ys.take (k+1))=cnt 0 (ys.take k)+1)):=by
 have hb:=hy _ (Aui h);have t1:=Sz 1 ys k h;have t2:=Sz (-1) ys k h;have t3:=Sz 0 ys k h
 refine⟨ys[k],by rw[Apv,Apd h];rfl,?_⟩
 generalize ys[k]=y at *
 rcases(by omega:y=1\/y=-1\/y=0)with rfl|rfl|rfl
 ·exact .inl ⟨rfl,t1,t2,t3⟩
 ·exact .inr (.inl ⟨rfl,t1,t2,t3⟩)
 ·exact .inr (.inr ⟨rfl,t1,t2,t3⟩)
def I9 (ys:List Int)(k:Nat):Array Value:=#[.int .i64 (cnt 1 (ys.take k)),.int .i64 (cnt (-1) (ys.take k)),.int .i64 (cnt 0 (ys.take k))]
theorem A6y {ys:List Int}(k:Nat)(hl:ys.length<=1048576)(v:Int):(cnt v (ys.take k):Int)<=1048576:=by
 have:=Ahg v (ys.take k);simp at this
 omega
theorem A1f {w W:World}{b:Nat}{ys:List Int}{T:TypeId}(k:Nat)(h:A9 w b (I9 ys k) T W)(hb:w.heap.size<=b) :
 (∀p q r:Nat,cnt 1 (ys.take k)=p->cnt (-1) (ys.take k)=q->cnt 0 (ys.take k)=r ->
  (cnt 1 (ys.take (k+1))=p+1->cnt (-1) (ys.take (k+1))=q->cnt 0 (ys.take (k+1))=r->A9 w b (I9 ys (k+1)) T (W.setCell ⟨b,0,none⟩ (.int .i64 (p+1)))) /\
  (cnt 1 (ys.take (k+1))=p->cnt (-1) (ys.take (k+1))=q+1->cnt 0 (ys.take (k+1))=r->A9 w b (I9 ys (k+1)) T (W.setCell ⟨b,1,none⟩ (.int .i64 (q+1)))) /\
  (cnt 1 (ys.take (k+1))=p->cnt (-1) (ys.take (k+1))=q->cnt 0 (ys.take (k+1))=r+1->A9 w b (I9 ys (k+1)) T (W.setCell ⟨b,2,none⟩ (.int .i64 (r+1))))):=by
 rintro p q r rfl rfl rfl
 refine⟨fun e1 e2 e3=>?_,fun e1 e2 e3=>?_,fun e1 e2 e3=>?_⟩
 ·have:=h.set hb 0 (.int .i64 ((cnt 1 (ys.take k):Int)+1));unfold I9 at this ⊢;rw[e1,e2,e3]
  exact this
 ·have:=h.set hb 1 (.int .i64 ((cnt (-1) (ys.take k):Int)+1));unfold I9 at this ⊢;rw[e1,e2,e3]
  exact this
 ·have:=h.set hb 2 (.int .i64 ((cnt 0 (ys.take k):Int)+1));unfold I9 at this ⊢;rw[e1,e2,e3]
  exact this
theorem Ks (cx cy:Nat)(deep size:Int)(hx:cx<4294967296)(hy:cy<4294967296)(hp:Bh cx cy deep size=true)(a a':Option Addr)(n c c':Nat)(ys:List Int)(hl:ys.length<=1048576)(w:World)(hs:Sl w a' (ys.map Ax))(hw:Ck size n ys=true) :
 Calls Vp.prog 52 #[.agg #[.complex .f32 cx cy,.int .i64 deep,.int .i64 size,.slice a n c,.slice a' ys.length c']] w fun e w'=>∃b,e=.returned (.tuple #[.slice (some ⟨b,0,none⟩) 3 3,.bool true])/\w.heap.size<=b/\A9 w b (I9 ys ys.length) 3 w':=by
 obtain⟨g1,g2,g3⟩:=Aak hw;have B:=A9.new w #[.complex .f32 cx cy,.int .i64 deep,.int .i64 size,.slice a n c,.slice a' ys.length c'] 35;have HW:=Aoy (Qy cx cy deep size hx hy hp a a' n c c' ys hl _ (hs.alloc (.cells #[.complex .f32 cx cy,.int .i64 deep,.int .i64 size,.slice a n c,.slice a' ys.length c'] 35)));rw[hw]at HW;have HT:=Aoy (fun k=>Wr g3 k)
 have HM:=Aoy (fun k=>A6y k hl)
 have H2:=Aoy hs;obtain⟨m,hm⟩:∃m,ys.length=m:=⟨_,rfl⟩;rw[hm]at HW B hl HT ⊢;clear hp hs hw hm g1 g2 g3
 go_enter Vp.func52,Tryz.ntmps52
 go_wp2_with fail
 refine HW.out.mono ?_
 rintro e w1 ⟨rfl,hd⟩;replace B:=B.step hd;have hsz:=B.old.size;have R:=(A9.new w1 #[.int .i64 0,.int .i64 0,.int .i64 0] 3).up B.old;replace B:=B.alloc (.cells #[.int .i64 0,.int .i64 0,.int .i64 0] 3);have HB:=Aoy B;have HR:Hid (A9 w w1.heap.size (I9 ys 0) 3 (w1.alloc (.cells #[.int .i64 0,.int .i64 0,.int .i64 0] 3))):=R;have hlt:=B.lt
 have hne:w.heap.size≠w1.heap.size:=by
  have:=hd.size;simp at this
  omega
 clear hd HW B R
 go_wp2
 generalize hwb:w1.heap.size=wb at *
 go_loopw [5,6] (fun i _ wr=>∃k:Nat,k<=m/\i=.int .i64 k/\Hid (A9 w wb (I9 ys k) 3 wr)/\Hid (A9 w w.heap.size #[.complex .f32 cx cy,.int .i64 deep,.int .i64 size,.slice a n c,.slice a' m c'] 35 wr)) (fun i _ _=>(m-intOf i).toNat)
 case atStart=>exact⟨0,by omega,rfl,HR.out,HB.out⟩
 case round =>
  obtain⟨k,hk,rfl,HR,HB⟩:=hrel;have b4:=HB.out.cell 4 _ rfl;have R:=HR.out
  by_cases hlt:k<m
  ·obtain⟨y,hyk,hy⟩:=HT.out k hlt;obtain⟨b',off',rfl,hc'⟩:=(H2.out.step HB.out.old).at hyk;obtain⟨HS1,HS2,HS3⟩:=A1f k R (by omega) _ _ _ rfl rfl rfl
   replace HS1:=Aoy HS1;replace HS2:=Aoy HS2;replace HS3:=Aoy HS3;have m1:=HM.out k 1;have m2:=HM.out k (-1);have m3:=HM.out k 0;have c0:=R.cell 0 (.int .i64 (cnt 1 (ys.take k))) rfl;have c1:=R.cell 1 (.int .i64 (cnt (-1) (ys.take k))) rfl;have c2:=R.cell 2 (.int .i64 (cnt 0 (ys.take k))) rfl;have f0:=R.frozen 0;have f1:=R.frozen 1;have f2:=R.frozen 2;have hlw:=R.lt;clear hyk R;obtain⟨p,hp⟩:∃p,cnt 1 (ys.take k)=p:=⟨_,rfl⟩;obtain⟨q,hq⟩:∃q,cnt (-1) (ys.take k)=q:=⟨_,rfl⟩;obtain⟨r,hr⟩:∃r,cnt 0 (ys.take k)=r:=⟨_,rfl⟩;rw[hp]at HS1 HS2 HS3 m1 hy c0;rw[hq]at HS1 HS2 HS3 m2 hy c1;rw[hr]at HS1 HS2 HS3 m3 hy c2;have HP:=Aoy hp;have HQ:=Aoy hq;have HRR:=Aoy hr;clear hp hq hr
   rcases hy with⟨rfl,e1,e2,e3⟩ |⟨rfl,e1,e2,e3⟩ |⟨rfl,e1,e2,e3⟩
   ·have HN:=Aoy (HS1.out e1 e2 e3);have HB2:=Aoy (HB.out.other (p:=⟨wb,0,none⟩) (by simp;omega) hne (.int .i64 (p+1)))
    clear e1 e2 e3 HS1 HS2 HS3
    go_wp2
    go_roundw
    case rel=>exact⟨k+1,by omega,by go_num,HN.out,HB2.out⟩
    case measure=>simp[intOf];omega
   ·have HN:=Aoy (HS2.out e1 e2 e3);have HB2:=Aoy (HB.out.other (p:=⟨wb,1,none⟩) (by simp;omega) hne (.int .i64 (q+1)))
    clear e1 e2 e3 HS1 HS2 HS3
    go_wp2
    go_roundw
    case rel=>exact⟨k+1,by omega,by go_num,HN.out,HB2.out⟩
    case measure=>simp[intOf];omega
   ·have HN:=Aoy (HS3.out e1 e2 e3);have HB2:=Aoy (HB.out.other (p:=⟨wb,2,none⟩) (by simp;omega) hne (.int .i64 (r+1)))
    clear e1 e2 e3 HS1 HS2 HS3
    go_wp2
    go_roundw
    case rel=>exact⟨k+1,by omega,by go_num,HN.out,HB2.out⟩
    case measure=>simp[intOf];omega
  ·go_wp2
   go_ret2
   obtain rfl:k=m:=by omega
   exact⟨wb,rfl,by omega,HR.out⟩
theorem Qi (a':Option Addr)(c':Nat)(ys:List Int)(hl:ys.length<=1048576)(hm1:∀y,y∈ys->-1<=y/\y<=1)(w:World)(hs:Sl w a' (ys.map Ax)) :
 Calls Vp.prog 17 #[.slice a' ys.length c'] w fun e w'=>e=.returned (.agg (I9 ys ys.length))/\Below w.heap.size w w':=by
 have HT:=Aoy (fun k=>Wr hm1 k)
 have HM:=Aoy (fun k=>A6y k hl)
 have H2:=Aoy hs;obtain⟨m,hm⟩:∃m,ys.length=m:=⟨_,rfl⟩;rw[hm]at hl HT ⊢;have R0:=(A9.new w #[.int .i64 0,.int .i64 0,.int .i64 0] 53).alloc (.cells #[.int .i64 0,.int .i64 0,.int .i64 0] 53);have O0:=(A9.new (w.alloc (.cells #[.int .i64 0,.int .i64 0,.int .i64 0] 53)) #[.int .i64 0,.int .i64 0,.int .i64 0] 53).up ((Aph w.heap.size w).alloc (Ap0 _) _);rw[show(w.alloc (.cells #[.int .i64 0,.int .i64 0,.int .i64 0] 53)).heap.size=w.heap.size+1 by simp]at O0
 have HB:Hid (A9 w w.heap.size #[.int .i64 0,.int .i64 0,.int .i64 0] 53 ((w.alloc (.cells #[.int .i64 0,.int .i64 0,.int .i64 0] 53)).alloc (.cells #[.int .i64 0,.int .i64 0,.int .i64 0] 53))):=R0;have HR:Hid (A9 w (w.heap.size+1) (I9 ys 0) 53 ((w.alloc (.cells #[.int .i64 0,.int .i64 0,.int .i64 0] 53)).alloc (.cells #[.int .i64 0,.int .i64 0,.int .i64 0] 53))):=O0;clear hs hm1 R0 O0 hm
 go_enter Vp.func17,Tryz.ntmps17
 go_wp2
 go_loopw [5,8,17,23] (fun _ i _ _ wr=>∃k:Nat,k<=m/\i=.int .i64 k/\Hid (A9 w w.heap.size #[.int .i64 0,.int .i64 0,.int .i64 0] 53 wr)/\Hid (A9 w (w.heap.size+1) (I9 ys k) 53 wr)) (fun _ i _ _ _=>(m-intOf i).toNat)
 case atStart=>exact⟨0,by omega,rfl,HB.out,HR.out⟩
 case round =>
  obtain⟨k,hk,rfl,HB,HR⟩:=hrel;have R:=HR.out
  by_cases hlt:k<m
  ·obtain⟨y,hyk,hy⟩:=HT.out k hlt;obtain⟨b',off',rfl,hc'⟩:=(H2.out.step HB.out.old).at hyk;obtain⟨HS1,HS2,HS3⟩:=A1f k R (by omega) _ _ _ rfl rfl rfl
   replace HS1:=Aoy HS1;replace HS2:=Aoy HS2;replace HS3:=Aoy HS3;have m1:=HM.out k 1;have m2:=HM.out k (-1);have m3:=HM.out k 0;have c0:=R.cell 0 (.int .i64 (cnt 1 (ys.take k))) rfl;have c1:=R.cell 1 (.int .i64 (cnt (-1) (ys.take k))) rfl;have c2:=R.cell 2 (.int .i64 (cnt 0 (ys.take k))) rfl;have f0:=R.frozen 0;have f1:=R.frozen 1;have f2:=R.frozen 2;have hlw:=R.lt;clear hyk R;obtain⟨p,hp⟩:∃p,cnt 1 (ys.take k)=p:=⟨_,rfl⟩;obtain⟨q,hq⟩:∃q,cnt (-1) (ys.take k)=q:=⟨_,rfl⟩;obtain⟨r,hr⟩:∃r,cnt 0 (ys.take k)=r:=⟨_,rfl⟩;rw[hp]at HS1 HS2 HS3 m1 hy c0;rw[hq]at HS1 HS2 HS3 m2 hy c1;rw[hr]at HS1 HS2 HS3 m3 hy c2;have HP:=Aoy hp;have HQ:=Aoy hq;have HRR:=Aoy hr;clear hp hq hr
   rcases hy with⟨rfl,e1,e2,e3⟩ |⟨rfl,e1,e2,e3⟩ |⟨rfl,e1,e2,e3⟩
   ·have HN:=Aoy (HS1.out e1 e2 e3);have HB2:=Aoy (HB.out.other (p:=⟨w.heap.size+1,0,none⟩) (by simp) (by simp) (.int .i64 (p+1)))
    clear e1 e2 e3 HS1 HS2 HS3
    go_wp2
    go_roundw
    case rel=>exact⟨k+1,by omega,by go_num,HB2.out,HN.out⟩
    case measure=>simp[intOf];omega
   ·have HN:=Aoy (HS2.out e1 e2 e3);have HB2:=Aoy (HB.out.other (p:=⟨w.heap.size+1,1,none⟩) (by simp) (by simp) (.int .i64 (q+1)))
    clear e1 e2 e3 HS1 HS2 HS3
    go_wp2
    go_roundw
    case rel=>exact⟨k+1,by omega,by go_num,HB2.out,HN.out⟩
    case measure=>simp[intOf];omega
   ·have HN:=Aoy (HS3.out e1 e2 e3);have HB2:=Aoy (HB.out.other (p:=⟨w.heap.size+1,2,none⟩) (by simp) (by simp) (.int .i64 (r+1)))
    clear e1 e2 e3 HS1 HS2 HS3
    go_wp2
    go_roundw
    case rel=>exact⟨k+1,by omega,by go_num,HB2.out,HN.out⟩
    case measure=>simp[intOf];omega
  ·obtain rfl:k=m:=by omega
   have B:=HB.out;have c0:=R.cell 0 (.int .i64 (cnt 1 (ys.take k))) rfl;have c1:=R.cell 1 (.int .i64 (cnt (-1) (ys.take k))) rfl;have c2:=R.cell 2 (.int .i64 (cnt 0 (ys.take k))) rfl;have d0:=B.cell 0 (.int .i64 0) rfl;have d1:=B.cell 1 (.int .i64 0) rfl;have d2:=B.cell 2 (.int .i64 0) rfl;have f0:=B.frozen 0;have f1:=B.frozen 1;have f2:=B.frozen 2;have hbl:=B.lt;have HD:=Aoy (((B.old.setCell (p:=⟨w.heap.size,0,none⟩) (Ap0 _) (.int .i64 (cnt 1 (ys.take k)))).setCell (p:=⟨w.heap.size,1,none⟩) (Ap0 _) (.int .i64 (cnt (-1) (ys.take k)))).setCell (p:=⟨w.heap.size,2,none⟩) (Ap0 _) (.int .i64 (cnt 0 (ys.take k))));clear R B
   go_wp2
   exact Ap4 (v:=.agg (I9 ys k)) (by simp[results,Tryz.f17,go_sem,I9,d0,d1,d2]) rfl ⟨rfl,HD.out⟩
end
section
open Go.RowKit Flo
attribute [local go_sem] A7 A5
theorem A9a (t:JT)(B:Nat)(w:World)(h:t.Ok B w)(hw:Ck t.size t.xs.length t.ys=true) :
 Calls Vp.prog 49 #[.agg #[.complex .f32 t.cx t.cy,.int .i64 t.deep,.int .i64 t.size,.slice t.a1 t.xs.length t.c1,.slice t.a2 t.ys.length t.c2]] w fun e w'=>e=.returned (.int .i64 (cnt 0 t.ys:Nat))/\Below w.heap.size w w':=by
 have X:=A9.new w #[.complex .f32 t.cx t.cy,.int .i64 t.deep,.int .i64 t.size,.slice t.a1 t.xs.length t.c1,.slice t.a2 t.ys.length t.c2] 35;have h':=Qb.step h X.old;have hlm:=h.lim;have CC:=Ks t.cx t.cy t.deep t.size h.bx h.by1 h.pl t.a1 t.a2 t.xs.length t.c1 t.c2 t.ys (by omega) _ h'.s2 hw
 have hcq:I9 t.ys t.ys.length=#[.int .i64 (cnt 1 t.ys:Nat),.int .i64 (cnt (-1) t.ys:Nat),.int .i64 (cnt 0 t.ys:Nat)]:=by unfold I9;rw[List.take_length]
 rw[hcq]at CC;replace CC:=Aoy CC;have HX:=Aoy X;obtain⟨x0,x1,x2,x3,x4⟩:=X.Ad;clear X h h' hlm hcq hw;generalize cnt 1 t.ys=m0 at *;generalize cnt (-1) t.ys=m1 at *;generalize cnt 0 t.ys=m2 at *
 go_enter Vp.func49,Tryz.ntmps49
 go_wp2_with fail
 refine CC.out.mono ?_
 rintro e w1 ⟨b,rfl,hb,hC⟩;have c2:=hC.cell 2 _ rfl;have HB:=Aoy (HX.out.step hC.old).old;clear hC CC x0 x1 x2 x3 x4
 go_wp2
 go_ret
 exact⟨rfl,HB.out⟩
end
section
open Go.RowKit Flo
attribute [local go_sem ↓] Go.wp_at_zero Go.wp_at_succ
structure PM (w:World)(rb ob:Nat)(pv:Value)(m:Nat)(ms:List Int)(mkv:Value)(p q r:Int)(W:World):Prop where
 O:A9 w ob #[pv,mkv,.int .i64 p,.int .i64 q,.int .i64 r] 29 W
 R:A9 w rb #[.slice none 0 0,.slice none 0 0,.int .i64 0,.int .i64 0,.int .i64 0] 29 W
 M:W.ownsRow w.heap.size 3 1 mkv m (ms.map Ax)
 ne:rb≠ob
 hr:w.heap.size<=rb
 ho:w.heap.size<=ob
theorem PM.step {w:World}{rb ob m:Nat}{pv mkv:Value}{ms:List Int}{p q r:Int}{W W':World}(h:PM w rb ob pv m ms mkv p q r W)(k:Below W.heap.size W W'):PM w rb ob pv m ms mkv p q r W' :=
 ⟨h.O.step k,h.R.step k,Ab h.M k,h.ne,h.hr,h.ho⟩
theorem PM.alloc {w:World}{rb ob m:Nat}{pv mkv:Value}{ms:List Int}{p q r:Int}{W:World}(h:PM w rb ob pv m ms mkv p q r W)(o:Obj):PM w rb ob pv m ms mkv p q r (W.alloc o):=h.step ((Aph _ _).alloc (Ap0 _) o)
theorem PM.mark {w:World}{rb ob m:Nat}{pv mkv v':Value}{ms:List Int}{p q r:Int}{W W':World}(h:PM w rb ob pv m ms mkv p q r W){z:Int}(hown:W'.ownsRow w.heap.size 3 1 v' (m+1) (ms.map Ax++[Ax z]))(hg:W.grownBy W' mkv.ownBlock) :
 PM w rb ob pv (m+1) (ms++[z]) v' p q r (W'.setCell ⟨ob,1,none⟩ v')/\W'.cell? ⟨ob,1,none⟩=some mkv/\W'.frozen? ⟨ob,1,none⟩=false:=by
 have hrow:∀k,mkv.ownBlock=some k->w.heap.size<=k:=fun k hk=>(h.M.lt k hk).1
 have O:=h.O.grown hg (Ag h.M h.O.blk (by decide)) hrow
 have R:=h.R.grown hg (Ag h.M h.R.blk (by decide)) hrow
 refine⟨⟨?_,R.other (p:=⟨ob,1,none⟩) h.ho h.ne _,?_,h.ne,h.hr,h.ho⟩,O.cell 1 _ rfl,O.frozen 1⟩
 ·have:=O.set h.ho 1 v'
  exact this
 ·rw[Aq2]
  exact A6 hown O.blk (by decide) _
theorem PM.Uc {w:World}{rb ob m:Nat}{pv mkv:Value}{ms:List Int}{p q r:Int}{W:World}(h:PM w rb ob pv m ms mkv p q r W)(x:Int):PM w rb ob pv m ms mkv x q r (W.setCell ⟨ob,2,none⟩ (.int .i64 x)) :=
 ⟨h.O.set h.ho 2 _,h.R.other (p:=⟨ob,2,none⟩) h.ho h.ne _,A6 h.M h.O.blk (by decide) _,h.ne,h.hr,h.ho⟩
theorem PM.Aim {w:World}{rb ob m:Nat}{pv mkv:Value}{ms:List Int}{p q r:Int}{W:World}(h:PM w rb ob pv m ms mkv p q r W)(x:Int):PM w rb ob pv m ms mkv p x r (W.setCell ⟨ob,3,none⟩ (.int .i64 x)) :=
 ⟨h.O.set h.ho 3 _,h.R.other (p:=⟨ob,3,none⟩) h.ho h.ne _,A6 h.M h.O.blk (by decide) _,h.ne,h.hr,h.ho⟩
theorem PM.A3f {w:World}{rb ob m:Nat}{pv mkv:Value}{ms:List Int}{p q r:Int}{W:World}(h:PM w rb ob pv m ms mkv p q r W)(x:Int):PM w rb ob pv m ms mkv p q x (W.setCell ⟨ob,4,none⟩ (.int .i64 x)) :=
 ⟨h.O.set h.ho 4 _,h.R.other (p:=⟨ob,4,none⟩) h.ho h.ne _,A6 h.M h.O.blk (by decide) _,h.ne,h.hr,h.ho⟩
theorem PM.fin {w:World}{rb ob m:Nat}{pv mkv:Value}{ms:List Int}{p q r:Int}{W:World}(h:PM w rb ob pv m ms mkv p q r W)(u0 u1 u2 u3 u4:Value) :
 (((((W.setCell ⟨rb,0,none⟩ u0).setCell ⟨rb,1,none⟩ u1).setCell ⟨rb,2,none⟩ u2).setCell ⟨rb,3,none⟩ u3).setCell ⟨rb,4,none⟩ u4).ownsRow w.heap.size 3 1 mkv m (ms.map Ax):=by
 have b0:=h.R;have b1:=b0.set h.hr 0 u0;have b2:=b1.set h.hr 1 u1;have b3:=b2.set h.hr 2 u2;have b4:=b3.set h.hr 3 u3
 exact A6 (A6 (A6 (A6 (A6 h.M b0.blk (by decide) u0) b1.blk (by decide) u1) b2.blk (by decide) u2) b3.blk (by decide) u3) b4.blk (by decide) u4
end
section
open Go.RowKit Flo
theorem V4 {P:Program}(w:World){o:Oper}{a:Act}{K:Act->World->Prop}{Q:Exit->Act->World->Prop}(s x:Operand)(t:TypeId)
 (ho:o.op=.call { callee:=.builtin .append,args:=#[s,x],argTypes:=#[t,t] })
 (base:Nat) (e:TypeId) (i:TypeInfo) (z:Value) (size bytes:Nat) (ht:P.underlying t=some (.slice e)) (hi:P.info? e=some i) (hz:i.zero=some z)
 (hsize:i.size=size) (hby:i.bytes=bytes) (hzs:z.cells.size=size) (hsz:0<size)
 (v:Value) (n:Nat) (xs:List Value) (hs:a.eval s=v) (hown:w.ownsRow base e size v n xs)
 (ad:Addr) (m c:Nat) (news:List Value) (hx:a.eval x=.slice (some ad) m c) (hl:news.length=m*size) (hnews:∀j u,news[j]?=some u->w.cell? (ad.add j)=some u) (h1:∀u∈news,u.oneCell'=true)
 (h63:n+m<=maxLen) (hbytes:(n+m)*bytes<=140737488355328) (hbase:base<=w.heap.size)
 (h:∀v' w',w'.ownsRow base e size v' (n+m) (xs++news)->w.grownBy w' v.ownBlock->K (a.put o.dst v') w'):o.wp P a w K Q:=by
 obtain⟨v',w',hr,h2,h3,-,-⟩:=run_append_own_at (P:=P) w base t o.type e i z size bytes ht hi hz hsize hby hzs hsz v n xs hown ad m c news hl hnews h1 h63 hbytes hbase;unfold Oper.wp execOp;simp only[ho,resolve,invoke,builtin,As3,Sem.run_pure,Atw,Att,Aqo,Asr,hs,hx,hr]
 exact h v' w' h2 h3
theorem Cv {P:Program}(w:World){ops:Array Oper}{o:Oper}{a:Act}{K:Act->World->Prop}{Q:Exit->Act->World->Prop}{E:Prop}(hgd:o.guard=none)(s x:Operand)(t:TypeId)
 (ho:o.op=.call { callee:=.builtin .append,args:=#[s,x],argTypes:=#[t,t] })
 (base:Nat) (e:TypeId) (i:TypeInfo) (z:Value) (size bytes:Nat) (ht:P.underlying t=some (.slice e)) (hi:P.info? e=some i) (hz:i.zero=some z)
 (hsize:i.size=size) (hby:i.bytes=bytes) (hzs:z.cells.size=size) (hsz:0<size)
 (v:Value) (n:Nat) (xs:List Value) (hs:a.eval s=v) (hown:w.ownsRow base e size v n xs)
 (ad:Addr) (m c:Nat) (news:List Value) (hx:a.eval x=.slice (some ad) m c) (hl:news.length=m*size) (hnews:∀j u,news[j]?=some u->w.cell? (ad.add j)=some u) (h1:∀u∈news,u.oneCell'=true)
 (h63:n+m<=maxLen) (hbytes:(n+m)*bytes<=140737488355328) (hbase:base<=w.heap.size)
 (h:∀v' w',w'.ownsRow base e size v' (n+m) (xs++news)->w.grownBy w' v.ownBlock->K (a.put o.dst v') w') :
 if Region.wanted o (yielded ops a.tmps)=true then Oper.wp P o a w K Q else E:=by
 have hw:Region.wanted o (yielded ops a.tmps)=true:=by simp[Region.wanted,hgd]
 rw[Apb hw]
 exact V4 w s x t ho base e i z size bytes ht hi hz hsize hby hzs hsz v n xs hs hown ad m c news hx hl hnews h1 h63 hbytes hbase h
theorem Cn.Aj5 {B:Nat}{t:Aj}{W:World}(h:Cn B t W):Ck (JT.of t).size (JT.of t).xs.length (JT.of t).ys=true:=by
 have hp:=Bs h.pl;obtain⟨s,hs⟩:=Aqg (show 0<=t.size by omega)
 have e1:t.xs.length=s*s:=by have:=h.made.lx;unfold Aj.n at this;rw[hs,Aqk]at this;exact this
 have e2:t.ys.length=s*s:=by have:=h.made.ly;unfold Aj.n at this;rw[hs,Aqk]at this;exact this
 show Ck t.size t.xs.length t.ys=true
 rw[hs,e1];unfold Ck;rw[Apj (Apx s s),Apj e2];simp only[Ash,Art];intro y hy;have:=h.made.hy y hy;unfold Dz Gt;simp only[Ap7,Apm]
 exact this
theorem cells_one {B:Nat}{t:Aj}{W:World}(_:Cn B t W):∀u∈t.cells,u.oneCell'=true:=by
 intro u hu;unfold Aj.cells at hu;simp only[Aqe,Aqc,As6]at hu
 rcases hu with rfl|rfl|rfl|rfl|rfl<;>rfl
theorem No {B:Nat}{L:List Aj}{W:World}(h:∀t,t∈L->Cn B t W):∀u∈Ac L,u.oneCell'=true:=by
 intro u hu;unfold Ac at hu;obtain⟨t,ht,hu⟩:=List.mem_flatMap.1 hu
 exact cells_one (h t ht) u hu
theorem Gg:∀L:List Aj,(Ac L).length=L.length*5
 | []=>rfl
 | t :: L=>by
   show(t.cells++Ac L).length=_
   rw[Apz,Gg L,Aqx,Arb]
   show 5+_=_
   omega
theorem Gq (L M:List Aj):Ac (L++M)=Ac L++Ac M:=by unfold Ac;rw[Auv]
theorem A19 (L:List Aj)(k j:Nat)(u:Value)(h:(Ac (L.take k))[j]?=some u):(Ac L)[j]?=some u:=by
 have e:Ac L=Ac (L.take k)++Ac (L.drop k):=by rw[<-Gq,Atq]
 rw[e,Ar4 (Apg.1 h).1]
 exact h
theorem A18 (L:List Aj)(k j:Nat)(hk:k<=L.length)(u:Value)(h:(Ac (L.drop k))[j]?=some u):(Ac L)[k*5+j]?=some u:=by
 have e:Ac L=Ac (L.take k)++Ac (L.drop k):=by rw[<-Gq,Atq]
 have hl:(Ac (L.take k)).length=k*5:=by rw[Gg,Arr,As0 hk]
 rw[e,Are (by omega),hl,Nat.add_sub_cancel_left]
 exact h
theorem Jf (b o j:Nat):(⟨b,o,none⟩:Addr).add j=⟨b,o+j,none⟩:=by unfold Addr.add;split<;>simp_all
theorem S8 {w:World}{base:Nat}{e:TypeId}{size:Nat}{g m cap n:Nat}{xs:List Value}(hn:0<n)(h:w.ownsRow base e size (.slice (some ⟨g,0,none⟩) m cap) n xs):m<=cap:=by
 obtain⟨g',cap',e',-,hc⟩:=ownsRow_form h hn;injection e' with _ e2 e3
 omega
theorem Us {B g ln cap:Nat}{L:List Aj}{W:World}(h:Ce B L (.slice (some ⟨g,0,none⟩) ln cap) W)(hl:L.length=ln)(j:Nat)(u:Value)(hj:(Ac L)[j]?=some u):W.cell? ⟨g,j,none⟩=some u:=by
 subst hl;have hlt:=(Apg.1 hj).1;rw[Gg]at hlt;rw[h.row.cellAt j hlt]
 exact hj
theorem A84 {B g ln cap k:Nat}{L:List Aj}{w:World}(h:Ce B L (.slice (some ⟨g,0,none⟩) ln cap) w)(hl:L.length=ln)(hk:k<=ln) :
 (Ac (L.take k)).length=k*5 /\(∀W,Below w.heap.size w W->∀j u,(Ac (L.take k))[j]?=some u->W.cell? ((⟨g,0,none⟩:Addr).add j)=some u)/\∀u∈Ac (L.take k),u.oneCell'=true:=by
 refine⟨by rw[Gg,Arr,As0 (by omega)],fun W d j u hj=>?_,fun u hu=>?_⟩
 ·rw[Jf,Aqr];have h1:=Us h hl j u (A19 L k j u hj)
  exact(d.cell (p:=⟨g,j,none⟩) (Apw w _ h1)).trans h1
 ·exact No (B:=B) (W:=w) (fun t ht=>h.own t (At1 ht)) u hu
theorem Aea {B g cap:Nat}{L:List Aj}{w:World}(h:Ce B L (.slice (some ⟨g,0,none⟩) 4 cap) w)(hl:L.length=4) :
 (Ac L).length=4*5 /\(∀W,Below w.heap.size w W->∀j u,(Ac L)[j]?=some u->W.cell? ((⟨g,0,none⟩:Addr).add j)=some u)/\∀u∈Ac L,u.oneCell'=true:=by
 refine⟨by rw[Gg,hl],fun W d j u hj=>?_,fun u hu=>No h.own u hu⟩
 rw[Jf,Aqr];have h1:=Us h hl j u hj
 exact(d.cell (p:=⟨g,j,none⟩) (Apw w _ h1)).trans h1
theorem Agi {B g ln cap k:Nat}{L:List Aj}{w:World}(h:Ce B L (.slice (some ⟨g,0,none⟩) ln cap) w)(hl:L.length=ln)(hk:k+1<=ln) :
 (Ac (L.drop (k+1))).length=(ln-(k+1))*5 /\(∀W,Below w.heap.size w W->∀j u,(Ac (L.drop (k+1)))[j]?=some u->W.cell? ((⟨g,(k+1)*5,none⟩:Addr).add j)=some u)/\∀u∈Ac (L.drop (k+1)),u.oneCell'=true:=by
 refine⟨by rw[Gg,List.length_drop,hl],fun W d j u hj=>?_,fun u hu=>?_⟩
 ·rw[Jf];have h1:=Us h hl _ u (A18 L (k+1) j (by omega) u hj)
  exact(d.cell (p:=⟨g,(k+1)*5+j,none⟩) (Apw w _ h1)).trans h1
 ·exact No (B:=B) (W:=w) (fun t ht=>h.own t (At2 ht)) u hu
theorem G9 {g ln k:Nat}{L:List Aj}{w:World}(hl:L.length=ln)(hk:ln<=k+1) :
 (Ac (L.drop (k+1))).length=(ln-(k+1))*5 /\(∀W,Below w.heap.size w W->∀j u,(Ac (L.drop (k+1)))[j]?=some u->W.cell? ((⟨g,0,none⟩:Addr).add j)=some u)/\∀u∈Ac (L.drop (k+1)),u.oneCell'=true:=by
 have e:L.drop (k+1)=[]:=List.drop_of_length_le (by omega)
 rw[e]
 exact⟨by show 0=_;omega,fun W d j u hj=>by simp[Ac]at hj,fun u hu=>by simp[Ac]at hu⟩
theorem Aj2 {w w5 w8:World}{g g4 ln cap cap4 k:Nat}{L L4:List Aj}{v3:Value}(h:Ce w.heap.size L (.slice (some ⟨g,0,none⟩) ln cap) w5)(h4:Ce w.heap.size L4 (.slice (some ⟨g4,0,none⟩) 4 cap4) w5)(d:Below w5.heap.size w5 w8)(hl:L.length=ln)(hl4:L4.length=4)(hk:k+1<=ln)(hw:w.heap.size<=w5.heap.size)
 (ho:w8.ownsRow w5.heap.size 35 5 v3 (0+k+4 +(ln-(k+1))) ((([]++Ac (L.take k))++Ac L4)++Ac (L.drop (k+1)))):Ce w.heap.size (L.take k++L4++L.drop (k+1)) v3 w8:=by
 refine⟨?_,fun t ht=>?_⟩
 ·have e1:(L.take k++L4++L.drop (k+1)).length=0+k+4 +(ln-(k+1)):=by
   rw[Apz,Apz,Arr,List.length_drop,hl4,hl,As0 (by omega)];omega
  rw[e1,Gq,Gq]
  exact G3 ho hw
 ·rcases Aq9.1 ht with ht|ht
  ·rcases Aq9.1 ht with ht|ht
   ·exact(h.own t (At1 ht)).step d
   ·exact(h4.own t ht).step d
  ·exact(h.own t (At2 ht)).step d
theorem A3s {w:World}{B g ln cap:Nat}{e:TypeId}{xs:List Value}(h:w.ownsRow B e 1 (.slice (some ⟨g,0,none⟩) ln cap) ln xs)(j:Nat)(u:Value)(hj:xs[j]?=some u):w.cell? ⟨g,j,none⟩=some u:=by
 have hlt:=(Apg.1 hj).1;have hl:=h.1;rw[h.cellAt j (by omega)]
 exact hj
theorem A80 {w:World}{B g ln cap k:Nat}{e:TypeId}{xs:List Value}(h:w.ownsRow B e 1 (.slice (some ⟨g,0,none⟩) ln cap) ln xs)(hk:k<=ln)(ho:∀u∈xs,u.oneCell'=true) :
 (xs.take k).length=k*1 /\(∀W,Below w.heap.size w W->∀j u,(xs.take k)[j]?=some u->W.cell? ((⟨g,0,none⟩:Addr).add j)=some u)/\∀u∈xs.take k,u.oneCell'=true:=by
 have hl:=h.1
 refine⟨by rw[Arr,As0 (by omega),Ata],fun W d j u hj=>?_,fun u hu=>ho u (At1 hu)⟩
 rw[Jf,Aqr];have hjk:j<k:=by have:=(Apg.1 hj).1;rw[Arr]at this;omega
 rw[Atf hjk]at hj;have h1:=A3s h j u hj
 exact(d.cell (p:=⟨g,j,none⟩) (Apw w _ h1)).trans h1
theorem Agc {w:World}{B g ln cap k:Nat}{e:TypeId}{xs:List Value}(h:w.ownsRow B e 1 (.slice (some ⟨g,0,none⟩) ln cap) ln xs)(hk:k+1<=ln)(ho:∀u∈xs,u.oneCell'=true) :
 (xs.drop (k+1)).length=(ln-(k+1))*1 /\(∀W,Below w.heap.size w W->∀j u,(xs.drop (k+1))[j]?=some u->W.cell? ((⟨g,k+1,none⟩:Addr).add j)=some u)/\∀u∈xs.drop (k+1),u.oneCell'=true:=by
 have hl:=h.1
 refine⟨by rw[List.length_drop];omega,fun W d j u hj=>?_,fun u hu=>ho u (At2 hu)⟩
 rw[Jf];rw[List.getElem?_drop]at hj;have h1:=A3s h _ u hj
 exact(d.cell (p:=⟨g,k+1+j,none⟩) (Apw w _ h1)).trans h1
theorem Aiv {w:World}{g ln k:Nat}{xs:List Value}(hl:xs.length=ln)(hk:ln<=k+1) :
 (xs.drop (k+1)).length=(ln-(k+1))*1 /\(∀W,Below w.heap.size w W->∀j u,(xs.drop (k+1))[j]?=some u->W.cell? ((⟨g,0,none⟩:Addr).add j)=some u)/\∀u∈xs.drop (k+1),u.oneCell'=true:=by
 have e:xs.drop (k+1)=[]:=List.drop_of_length_le (by omega)
 rw[e]
 exact⟨by show 0=_;omega,fun W d j u hj=>by simp at hj,fun u hu=>by simp at hu⟩
theorem A7z {w0 w:World}{nb:Nat}{T:TypeId}{s0 s1 s2 s3:ByteArray}(h:A9 w0 nb #[.string s0,.string s1,.string s2,.string s3] T w) :
 ([.string s0,.string s1,.string s2,.string s3]:List Value).length=4*1 /\(∀W,Below w.heap.size w W->∀j u,([.string s0,.string s1,.string s2,.string s3]:List Value)[j]?=some u->W.cell? ((⟨nb,0,none⟩:Addr).add j)=some u)/\∀u∈([.string s0,.string s1,.string s2,.string s3]:List Value),u.oneCell'=true:=by
 refine⟨rfl,fun W d j u hj=>?_,fun u hu=>?_⟩
 ·rw[Jf,Aqr]
  exact(h.step d).cell j u (by rw[<-Ar6];exact hj)
 ·simp only[Aqe,Aqc,As6]at hu
  rcases hu with rfl|rfl|rfl|rfl<;>rfl
theorem Up (P:List ByteArray):∀u∈P.map Value.string,u.oneCell'=true:=by
 intro u hu;obtain⟨s,-,rfl⟩:=Aq5.1 hu
 rfl
theorem Hr {w W:World}{base n rb:Nat}{e T:TypeId}{v:Value}{xs:List Value}{v0 v1 v2 v3 v4:Value}(h:W.ownsRow base e 1 v n xs)(R:A9 w rb #[v0,v1,v2,v3,v4] T W)(hr:w.heap.size<=rb)(hne:e≠T)(u0 u1 u2 u3 u4:Value) :
 (((((W.setCell ⟨rb,0,none⟩ u0).setCell ⟨rb,1,none⟩ u1).setCell ⟨rb,2,none⟩ u2).setCell ⟨rb,3,none⟩ u3).setCell ⟨rb,4,none⟩ u4).ownsRow base e 1 v n xs:=by
 have b1:=R.set hr 0 u0;have b2:=b1.set hr 1 u1;have b3:=b2.set hr 2 u2;have b4:=b3.set hr 3 u3
 exact A6 (A6 (A6 (A6 (A6 h R.blk hne u0) b1.blk hne u1) b2.blk hne u2) b3.blk hne u3) b4.blk hne u4
structure PK (w:World)(m:Nat)(L:List Aj)(P:List ByteArray)(lv pv:Value)(W:World):Prop where
 R:A9 w w.heap.size #[.slice none 0 0,.slice none 0 0,.int .i64 0,.int .i64 0,.int .i64 0] 29 W
 T:Ce w.heap.size L lv W
 S:W.ownsRow w.heap.size 9 1 pv L.length (P.map Value.string)
 sz:∀s,s∈P->s.size<=m
 lim:L.length<=1+3*m
 pos:0<L.length
theorem PK.Aop {w:World}{m:Nat}{L:List Aj}{P:List ByteArray}{lv pv:Value}{W:World}(h:PK w m L P lv pv W):P.length=L.length:=by have:=h.S.1;simpa using this
theorem PK.step {w:World}{m:Nat}{L:List Aj}{P:List ByteArray}{lv pv:Value}{W W':World}(h:PK w m L P lv pv W)(k:Below W.heap.size W W'):PK w m L P lv pv W' :=
 ⟨h.R.step k,h.T.step k,Ab h.S k,h.sz,h.lim,h.pos⟩
end
section
open Go.RowKit Go.Sort
attribute [local go_sem ↓] Go.wp_at_zero Go.wp_at_succ
structure Gb (S:Nat->Prop)(w w':World):Prop where
 os:w'.os=w.os
 tape:w'.tape=w.tape
 output:w'.output=w.output
 size:w.heap.size<=w'.heap.size
 block:∀k,k<w.heap.size->¬S k->w'.heap[k]?=w.heap[k]?
theorem Gb.trans {S:Nat->Prop}{u v w:World}(h:Gb S u v)(k:Gb S v w):Gb S u w :=
 ⟨k.os.trans h.os,k.tape.trans h.tape,k.output.trans h.output,Ap3 h.size k.size,fun i hi hn=>(k.block i (Ap6 hi h.size) hn).trans (h.block i hi hn)⟩
theorem Gb.mono {S S':Nat->Prop}{w w':World}(h:Gb S w w')(hS:∀k,k<w.heap.size->S k->S' k):Gb S' w w':=⟨h.os,h.tape,h.output,h.size,fun k hk hn=>h.block k hk fun hs=>hn (hS k hk hs)⟩
theorem Gb.Ay {S:Nat->Prop}{w w':World}(h:Below w.heap.size w w'):Gb S w w':=⟨h.os,h.tape,h.output,h.size,fun k hk _=>h.block k hk⟩
theorem Gb.A7h {S:Nat->Prop}{w w':World}{g:Nat}(h:C7 g w w')(hg:S g):Gb S w w':=⟨h.os,h.tape,h.output,h.size,fun k hk hn=>h.block k hk fun e=>hn (e▸hg)⟩
theorem Gb.Ou {S:Nat->Prop}{w w':World}{row:Option Nat}(h:w.grownBy w' row)(hr:∀k,row=some k->S k):Gb S w w' :=
 ⟨h.os,h.tape,h.output,h.size,fun k hk hn=>h.block k hk fun e=>hn (hr k e.symm)⟩
theorem Gb.set {S:Nat->Prop}{w w':World}(h:Gb S w w'){b:Nat}(hb:S b)(j:Nat)(v:Value):Gb S w (w'.setCell ⟨b,j,none⟩ v) :=
 h.trans ⟨rfl,rfl,rfl,by simp,fun k _ hn=>Aqv _ _ _ _ (by intro e;exact hn (by have e:k=b:=e;subst e;exact hb))⟩
theorem Gb.owns {S:Nat->Prop}{w w':World}(h:Gb S w w'){B:Nat}{e:TypeId}{size:Nat}{v:Value}{n:Nat}{xs:List Value}(k:w.ownsRow B e size v n xs)(hn:∀b,v.ownBlock=some b->¬S b):w'.ownsRow B e size v n xs:=by
 refine⟨k.1,?_⟩
 rcases k.2 with hl |⟨g,cap,cur,rfl,h2,h3,h4⟩
 ·exact .inl hl
 ·exact .inr ⟨g,cap,cur,rfl,h2,(h.block g (Aoz.1 h3).1 (hn g rfl)).trans h3,h4⟩
theorem Gb.below {S:Nat->Prop}{w w':World}(h:Gb S w w')(B:Nat)(hB:B<=w.heap.size)(hS:∀k,S k->B<=k):Below B w w':=⟨h.os,h.tape,h.output,h.size,fun k hk=>h.block k (by omega) fun hs=>by have:=hS k hs;omega⟩
theorem Gb.box {S:Nat->Prop}{w0 w w':World}(h:Gb S w w'){b:Nat}{C:Array Value}{T:TypeId}(k:A9 w0 b C T w)(hb:¬S b)(hS:∀k,S k->w0.heap.size<=k):A9 w0 b C T w' :=
 ⟨(h.block b k.lt hb).trans k.blk,k.old.trans (h.below _ k.old.size hS)⟩
def Ap (L:List Ae):List Value:=L.flatMap Ah
theorem K4:∀L:List Ae,(Ap L).length=L.length*7
 | []=>rfl
 | p :: L=>by
   show(Ah p++Ap L).length=_
   rw[Apz,K4 L,Fy,Aqx,Arb]
   omega
theorem Qg (L:List Ae)(p:Ae):Ap (L++[p])=Ap L++Ah p:=by unfold Ap;rw[Auv,List.flatMap_singleton]
theorem Ps:∀(L:List Ae) (k:Nat) (p:Ae),L[k]?=some p->∀j,j<7 ->(Ap L)[k*7+j]?=(Ah p)[j]?
 | [],k,p,h,_,_=>by simp at h
 | q :: L,0,p,h,j,hj=>by
   obtain rfl:q=p:=by simpa using h
   show(Ah q++Ap L)[0*7+j]?=_
   rw[Ar4 (by rw[Fy];omega)]
   congr 1
   omega
 | q :: L,k+1,p,h,j,hj=>by
   show(Ah q++Ap L)[(k+1)*7+j]?=_
   rw[Are (by rw[Fy];omega),Fy,show(k+1)*7+j-7=k*7+j by omega]
   exact Ps L k p (by simpa using h) j hj
theorem H9 {B g cap n:Nat}{d:Array Ae}{w:World}(h:w.ownsRow B 52 7 (.slice (some ⟨g,0,none⟩) n cap) n (Ap d.toList))(hn:d.size=n):E1 g cap d w/\B<=g/\cap<=maxLen:=by
 rcases h.2 with⟨h1,_⟩ |⟨g',cap',cur,h1,h2,h3,h4,h5,h6,h7⟩
 ·cases h1
 ·injection h1 with e1 e2 e3
  injection e1 with e1
  injection e1 with e1
  subst e1 e3
  refine⟨⟨cur,h3,h6,by omega,fun k hk j hj=>?_⟩,h2,h5⟩
  have h8:d.toList[k]?=some d[k]!:=by
   rw[Ar6,Ap5 hk,As7 d k hk]
  have:=Ps d.toList k _ h8 j hj;rw[<-h7,Atf (by omega),Ar6]at this
  exact this
theorem J2 {B g cap:Nat}{d:Array Ae}{w:World}(h:E1 g cap d w)(hB:B<=g)(hc:cap<=maxLen)(m:Nat)(hm:m<=d.size):w.ownsRow B 52 7 (.slice (some ⟨g,0,none⟩) m cap) m (Ap (d.toList.take m)):=by
 obtain⟨cur,h1,h2,h3,h4⟩:=h;have hl:(Ap (d.toList.take m)).length=m*7:=by rw[K4,Arr,Aqw,As0 hm]
 refine⟨hl,.inr ⟨g,cap,cur,rfl,hB,h1,by omega,hc,h2,?_⟩⟩
 apply List.ext_getElem?
 intro x
 by_cases hx:x<m*7
 ·rw[Atf hx,Ar6];have hk:x / 7<d.size:=by omega
  have h8:(d.toList.take m)[x / 7]?=some d[x / 7]!:=by
   rw[Atf (by omega),Ar6,Ap5 hk,As7 d _ hk]
  have e1:=Ps _ _ _ h8 (x % 7) (by omega)
  have e2:=h4 (x / 7) hk (x % 7) (by omega)
  rw[show x / 7*7+x % 7=x by omega]at e1 e2
  rw[e1,e2]
 ·rw[As9 (by rw[Arr];omega),As9 (by omega)]
theorem Q7 {P:Program}(w:World){ops:Array Oper}{o:Oper}{a:Act}{K:Act->World->Prop}{Q:Exit->Act->World->Prop}{E:Prop}(hgd:o.guard=none)(s x:Operand)(t:TypeId)
 (ho:o.op=.call { callee:=.builtin .append,args:=#[s,x],argTypes:=#[t,t] })
 (base:Nat) (e:TypeId) (i:TypeInfo) (z:Value) (size bytes:Nat) (ht:P.underlying t=some (.slice e)) (hi:P.info? e=some i) (hz:i.zero=some z)
 (hsize:i.size=size) (hby:i.bytes=bytes) (hzs:z.cells.size=size) (hsz:0<size)
 (v:Value) (n:Nat) (xs:List Value) (hs:a.eval s=v) (hown:w.ownsRow base e size v n xs)
 (ad:Addr) (m c:Nat) (news:List Value) (hx:a.eval x=.slice (some ad) m c) (hl:news.length=m*size) (hnews:∀j u,news[j]?=some u->w.cell? (ad.add j)=some u) (h1:∀u∈news,u.oneCell'=true)
 (h63:n+m<=maxLen) (hbytes:(n+m)*bytes<=140737488355328) (hbase:base<=w.heap.size)
 (h:∀v' w',w'.ownsRow base e size v' (n+m) (xs++news)->w.grownBy w' v.ownBlock ->(v'.ownBlock=v.ownBlock\/v'.ownBlock=some w.heap.size)->K (a.put o.dst v') w') :
 if Region.wanted o (yielded ops a.tmps)=true then Oper.wp P o a w K Q else E:=by
 have hw:Region.wanted o (yielded ops a.tmps)=true:=by simp[Region.wanted,hgd]
 rw[Apb hw];obtain⟨v',w',hr,h2,h3,-,h5⟩:=run_append_own_at (P:=P) w base t o.type e i z size bytes ht hi hz hsize hby hzs hsz v n xs hown ad m c news hl hnews h1 h63 hbytes hbase;unfold Oper.wp execOp;simp only[ho,resolve,invoke,builtin,As3,Sem.run_pure,Atw,Att,Aqo,Asr,hs,hx,hr]
 exact h v' w' h2 h3 h5
theorem A77:(Vp.prog.info? 52).map (fun i=>(i.zero,i.size,i.bytes))=some (some (.agg #[.complex .f32 0 0,.int .i64 0,.int .i64 0,.slice none 0 0,.slice none 0 0,.string ⟨#[]⟩,.int .i64 0]),7,96):=by kernel_rfl
end
section
open Go.RowKit Go.Sort
attribute [local go_sem ↓] Go.wp_at_zero Go.wp_at_succ
structure Yp (w0:World)(hb:Nat)(L:List Ae)(v:Value)(W:World):Prop where
 box:A9 w0 hb #[v,.func (.func 34) #[] #[]] 82 W
 row:W.ownsRow w0.heap.size 52 7 v L.length (Ap L)
 low:w0.heap.size<=hb
theorem Yp.step {w0:World}{hb:Nat}{L:List Ae}{v:Value}{W W':World}(h:Yp w0 hb L v W)(k:Below W.heap.size W W'):Yp w0 hb L v W':=⟨h.box.step k,Ab h.row k,h.low⟩
theorem Yp.ne {w0:World}{hb:Nat}{L:List Ae}{v:Value}{W:World}(h:Yp w0 hb L v W):v.ownBlock≠some hb:=Ag h.row h.box.blk (by decide)
abbrev hpS (hb:Nat)(v:Value):Nat->Prop:=fun k=>k=hb\/v.ownBlock=some k
def L7 (w:World)(v v':Value):Prop:=v'.ownBlock=v.ownBlock\/∃g,v'.ownBlock=some g/\w.heap.size<=g
theorem Ss {P:Program}{t x:TypeId}{fs:Array Field}(hu:P.underlying t=some (.struct fs))(v:Value)(w:World):Sem.run P (Instr.typeAssert (.iface t v) x t false) w=.ok v w:=by
 unfold Instr.typeAssert;dsimp only;rw[As3,As2 hu];simp
theorem Afx (w0:World)(hb:Nat)(L:List Ae)(v:Value)(p:Ae)(hL:L.length<=1000)(w:World)(H:Yp w0 hb L v w) :
 Calls Vp.prog 166 #[.pointer (some ⟨hb,0,none⟩),.iface 52 (.agg (Ah p).toArray)] w fun e w'=>e=.returned (.tuple #[])/\∃v',Yp w0 hb (L++[p]) v' w'/\Gb (hpS hb v) w w'/\L7 w v v':=by
 obtain⟨iT,hiT,hzT0,hzT1,hzT2⟩:=Aqz A77;have e1:(Ah p).toArray=#[.complex .f32 p.t.cx p.t.cy,.int .i64 p.t.deep,.int .i64 p.t.size,.slice (some ⟨p.t.gs,0,none⟩) p.t.n p.t.cs,.slice (some ⟨p.t.gm,0,none⟩) p.t.n p.t.cm,.string p.path,.int .i64 p.opn]:=rfl;have c0:=H.box.cell 0 _ rfl;have f0:=H.box.frozen 0;have hlt:=H.box.lt;have HH:=Aoy H;have HNE:=Aoy H.ne;rw[e1];have mixed:Vp.prog.follows .mixedOrders=true:=by kernel_rfl
 have ta:=fun(v:Value) (w:World)=>Ss (P:=Vp.prog) (x:=20) (Vp.Dw Tryz.underlying52) v w
 clear H
 go_enter Vp.func166,Tryz.ntmps166
 have HNW:Hid (∀j u,(Ah p)[j]?=some u ->((w.alloc (.cells (Ah p).toArray 52)).drew).cell? ((⟨w.heap.size,0,none⟩:Addr).add j)=some u):=fun j u hj=>by
  have X:=(A9.new w (Ah p).toArray 52).step ((Au.refl _).drew.below _);rw[M9,Aqr]
  exact X.cell j u (by rw[<-Ar6];exact hj)
 have HOW:=Aoy (Ab HH.out.row (((Aph w.heap.size w).alloc (Ap0 _) (.cells (Ah p).toArray 52)).drew));have hbs:w0.heap.size <=((w.alloc (.cells (Ah p).toArray 52)).drew).heap.size:=by have:=HH.out.box.old.size;simp;omega
 have hml:L.length+1<=maxLen:=by unfold maxLen;omega
 have HCW:Hid (Gb (hpS hb v) w ((w.alloc (.cells (Ah p).toArray 52)).drew)):=Gb.Ay (((Aph w.heap.size w).alloc (Ap0 _) (.cells (Ah p).toArray 52)).drew);have HBX:=Aoy ((HH.out.box.alloc (.cells (Ah p).toArray 52)).step ((Au.refl _).drew.below _));clear c0 f0;have c0:=HH.out.box.cell 0 _ rfl
 go_region_law (refine Q7 _ (by rfl) _ _ _ (by rfl) w0.heap.size 52 iT _ 7 96 (Vp.Dw Tryz.underlying48) hiT hzT0 hzT1 hzT2 rfl (by omega) v L.length (Ap L) (by rfl) HOW.out ⟨w.heap.size,0,none⟩ 1 1 (Ah p) (by rfl) rfl HNW.out (Jl p) hml (by omega) hbs ?_
                intro v' w6 hown hgrow hmv;have B6:=HBX.out.grown hgrow HNE.out (fun k hk=>(HH.out.row.lt k hk).1)
                have HB6:=Aoy B6;have k0:=B6.cell 0 _ rfl;have g0:=B6.frozen 0;obtain⟨g6,c6,rfl,-,-⟩:=ownsRow_form hown (by omega)
                have HO6:=Aoy hown;have HC6:=Aoy (HCW.out.trans (Gb.Ou hgrow (fun k hk=>.inr hk)))
                have HM6:Hid (L7 w v (.slice (some ⟨g6,0,none⟩) (L.length+1) c6)):=hmv.imp id fun h=>⟨_,h,by simp⟩
                clear hown hgrow hmv B6)
 all_goals
  go_wp2
  go_end0
  refine⟨rfl,_,⟨HB6.out.set HH.out.low 0 (.slice (some ⟨g6,0,none⟩) (L.length+1) c6),?_,HH.out.low⟩,HC6.out.set (.inl rfl) 0 _,HM6.out⟩
  rw[Apz,Qg]
  exact A6 HO6.out HB6.out.blk (by decide) _
end
section
open Go.RowKit Go.Sort
attribute [local go_sem ↓] Go.wp_at_zero Go.wp_at_succ
attribute [local go_sem] A7 A5
theorem Aig (w0:World)(hb m:Nat)(L:List Ae)(v:Value)(p:Ae)(hL:L.length=m+1)(hm:m<=1000)(hp:L[m]?=some p)(w:World)(H:Yp w0 hb L v w) :
 Calls Vp.prog 165 #[.pointer (some ⟨hb,0,none⟩)] w fun e w'=>e=.returned (.iface 52 (.agg (Ah p).toArray))/\∃v',Yp w0 hb (L.take m) v' w'/\Gb (fun k=>k=hb) w w'/\v'.ownBlock=v.ownBlock:=by
 have hrow:=H.row;rw[hL]at hrow;obtain⟨g,cap,rfl,-,hcap⟩:=ownsRow_form hrow (by omega)
 obtain⟨RW,hBg,hcm⟩:=H9 (d:=L.toArray) (by simpa using hrow) (by simpa using hL)
 have hpp:L.toArray[m]! = p:=by
  rw[As7 L.toArray m (by simp;omega)]
  simpa [Apd (show m<L.length by omega)]using hp
 have hgh:g≠hb:=fun e=>H.ne (by rw[e];rfl)
 obtain⟨a0,a1,a2,a3,a4,a5,a6⟩:=RW.D7 (k:=m) (by simp;omega) hpp
 have c0:=H.box.cell 0 _ rfl;have HRW:=Aoy RW;have HBX:=Aoy H.box;have HLOW:=Aoy H.low;have HNE:=Aoy hgh;have e1:(Ah p).toArray=#[.complex .f32 p.t.cx p.t.cy,.int .i64 p.t.deep,.int .i64 p.t.size,.slice (some ⟨p.t.gs,0,none⟩) p.t.n p.t.cs,.slice (some ⟨p.t.gm,0,none⟩) p.t.n p.t.cm,.string p.path,.int .i64 p.opn]:=rfl;rw[e1];have wr1:IntKind.i64.wrap ((m:Int)+1-1)=(m:Int):=by rw[Int.add_sub_cancel];exact Aq4 _ (by omega)
 have i1:(m:Int) <(m:Int)+1:=by omega
 have i0:(0:Int)<=m:=by omega
 have i2:(m:Int)<=cap:=by omega
 clear H RW hrow
 go_enter Vp.func165,Tryz.ntmps165
 go_upto_region 3 with fail
 have X:=(A9.new w #[.complex .f32 p.t.cx p.t.cy,.int .i64 p.t.deep,.int .i64 p.t.size,.slice (some ⟨p.t.gs,0,none⟩) p.t.n p.t.cs,.slice (some ⟨p.t.gm,0,none⟩) p.t.n p.t.cm,.string p.path,.int .i64 p.opn] 52);have HX:=Aoy X;have B2:=HBX.out.alloc (.cells #[.complex .f32 p.t.cx p.t.cy,.int .i64 p.t.deep,.int .i64 p.t.size,.slice (some ⟨p.t.gs,0,none⟩) p.t.n p.t.cs,.slice (some ⟨p.t.gm,0,none⟩) p.t.n p.t.cm,.string p.path,.int .i64 p.opn] 52);have HB2:=Aoy B2;have HR2:=Aoy (HRW.out.step X.old);have hbl:=HBX.out.lt;clear a0 a1 a2 a3 a4 a5 a6 c0;have c0:=B2.cell 0 _ rfl;have g0:=B2.frozen 0;have x0:=X.cell 0 _ rfl;have x1:=X.cell 1 _ rfl;have x2:=X.cell 2 _ rfl;have x3:=X.cell 3 _ rfl;have x4:=X.cell 4 _ rfl;have x5:=X.cell 5 _ rfl;have x6:=X.cell 6 _ rfl;clear X B2;generalize w.alloc (.cells #[.complex .f32 p.t.cx p.t.cy,.int .i64 p.t.deep,.int .i64 p.t.size,.slice (some ⟨p.t.gs,0,none⟩) p.t.n p.t.cs,.slice (some ⟨p.t.gm,0,none⟩) p.t.n p.t.cm,.string p.path,.int .i64 p.opn] 52)=wa at *
 go_wp2
 go_ret
 refine⟨rfl,.slice (some ⟨g,0,none⟩) m cap,⟨HB2.out.set HLOW.out 0 _,?_,HLOW.out⟩,(Gb.Ay (S:=fun k=>k=hb) HX.out.old).set (b:=hb) rfl 0 _,rfl⟩
 have hl:(L.take m).length=m:=by rw[Arr,hL];omega
 rw[hl];have:=J2 HR2.out hBg hcm m (by simp;omega)
 exact A6 (by simpa using this) HB2.out.blk (by decide) _
end
section
open Go.RowKit Go.Sort
attribute [local go_sem ↓] Go.wp_at_zero Go.wp_at_succ
theorem Gb.only {S:Nat->Prop}{u v w:World}{g:Nat}(h:Gb S u v)(k:C7 g v w)(hg:S g\/u.heap.size<=g):Gb S u w :=
 ⟨k.os.trans h.os,k.tape.trans h.tape,k.output.trans h.output,Ap3 h.size k.size,fun i hi hn=>(k.block i (Ap6 hi h.size) (fun e=>by
  subst e
  rcases hg with h|h
  ·exact hn h
  ·omega)).trans (h.block i hi hn)⟩
theorem Yx {α:Type}[Inhabited α](L:List α)(k:Nat)(hk:k<L.length):L.toArray[k]! = L[k]:=by
 rw[As7 L.toArray k (by simpa using hk)]
 simp
theorem Me {α:Type}(d:Array α):(d.extract 0 d.size).toList=d.toList:=by simp
theorem Agl (L:List Ae)(p:Ae)(h:Jy Ec L.length L.toArray):(Py Ec (L.length+1) (L++[p]).toArray L.length).toList.Perm (L++[p])/\Jy Ec (L.length+1) (Py Ec (L.length+1) (L++[p]).toArray L.length):=by
 have e:∀k,k<L.length ->(L++[p]).toArray[k]! = L.toArray[k]!:=fun k hk=>by
  rw[Yx _ k (by simp;omega),Yx _ k hk,List.getElem_append_left hk]
 have h1:=Ahq Aiz (L.length+1) (L++[p]).toArray L.length (L.length+1) (by omega) (by simp) (by omega) (fun k hk hkn hne=>by
  rw[e k (by omega),e _ (by omega)]
  exact h k hk (by omega)) (fun k hk hkn he h0=>by omega)
 refine⟨?_,h1.2⟩
 have h2:=h1.1.2.2;have hs:=h1.1.1;have e1:(L++[p]).toArray.size=L.length+1:=by simp
 rw[show(Py Ec (L.length+1) (L++[p]).toArray L.length).extract 0 (L.length+1)=(Py Ec (L.length+1) (L++[p]).toArray L.length).extract 0 (Py Ec (L.length+1) (L++[p]).toArray L.length).size by rw[hs,e1],Me,<-e1,Me]at h2
 rw[e1]at h2
 exact h2
theorem A8r (m:Nat)(L:List Ae)(hL:L.length=m+1)(h:Jy Ec (m+1) L.toArray)(d1:Array Ae)(hd:Dk Ec m (m+1) (swp L.toArray 0 m) 0=d1) :
 (d1[m]! :: d1.toList.take m).Perm L /\(∀q∈L,Ec q d1[m]! = false)/\Jy Ec m (d1.toList.take m).toArray/\d1.size=m+1:=by
 have hsz:(swp L.toArray 0 m).size=m+1:=by rw[swp_size];simpa using hL
 have hd1:d1.size=m+1:=by rw[<-hd,A5t,hsz]
 have g:=swp_get L.toArray (i:=0) (j:=m) (by simp;omega) (by simp;omega)
 have hp1:PermIn 0 (m+1) L.toArray (swp L.toArray 0 m):=swp_permIn _ _ _ _ _ (by omega) (by omega) (by omega) (by omega) (by simp;omega)
 have key:PermIn 0 m (swp L.toArray 0 m) d1/\Jy Ec m d1:=by
  rcases Aqq m with rfl|hm
  ·have:d1=swp L.toArray 0 0:=by rw[<-hd,K8 Ec 0 _ 0 (.inl (by omega))]
   rw[this]
   exact⟨permIn_refl _ _ _,fun k hk hk2=>by omega⟩
  ·rw[<-hd]
   refine Abx Aiz (m+1) (swp L.toArray 0 m) 0 m hm (by omega) (by omega) (fun k hk hkn hne=>?_) (fun k hk hkn he h0=>by omega)
   rw[g,g,Ap8 (by omega),Ap8 (by omega),Ap8 (by omega),Ap8 (by omega)]
   exact h k hk (by omega)
 have hlast:d1[m]! = L.toArray[0]!:=by
  rw[key.1.2.1 m (.inr (Ap0 _)),g,Apb rfl]
 have hall:PermIn 0 (m+1) L.toArray d1:=permIn_trans _ _ _ _ _ hp1 (permIn_mono _ _ 0 m 0 (m+1) (by omega) (by omega) (by omega) key.1)
 refine⟨?_,fun q hq=>?_,fun k hk hkm=>?_,hd1⟩
 ·have h2:=hall.2.2;have e1:L.toArray.size=m+1:=by simpa using hL
  rw[show d1.extract 0 (m+1)=d1.extract 0 d1.size by rw[hd1],Me,<-e1,Me]at h2
  have e2:d1.toList=d1.toList.take m++[d1[m]!]:=by
   have h3:d1.toList.drop m=[d1[m]!]:=by
    rw[List.drop_eq_getElem_cons (by simpa using (by omega:m<d1.size)),List.drop_of_length_le (by simp;omega),As7 d1 m (by omega)]
    simp
   rw[<-h3,Atq]
  refine List.Perm.trans ?_ h2
  conv=>rhs;rw[e2]
  exact(List.perm_append_singleton _ _).symm
 ·rw[hlast];obtain⟨k,hk,rfl⟩:=Auu hq;have:=Jy.root Aiz h k (by omega)
  rwa [Yx _ k hk]at this
 ·have e:∀j,j<m ->(d1.toList.take m).toArray[j]! = d1[j]!:=fun j hj=>by
   rw[Yx _ j (by simp;omega),As7 d1 j (by omega)]
   simp
  rw[e k hkm,e _ (by omega)]
  exact key.2 k hk hkm
theorem Yp.hps {w0:World}{hb g n cap:Nat}{L:List Ae}{W:World}(h:Yp w0 hb L (.slice (some ⟨g,0,none⟩) n cap) W):HpS hb g n cap W:=⟨h.box.cell 0 _ rfl,h.box.cell 1 _ rfl⟩
theorem A20 (w0:World)(hb:Nat)(L:List Ae)(v:Value)(p:Ae)(hL:L.length<=500)(hH:Jy Ec L.length L.toArray)(w:World)(H:Yp w0 hb L v w) :
 Calls Vp.prog 36 #[.iface 79 (.pointer (some ⟨hb,0,none⟩)),.iface 52 (.agg (Ah p).toArray)] w fun e w' =>
  e=.returned (.tuple #[])/\∃L' v',L'.Perm (L++[p])/\Jy Ec L'.length L'.toArray/\Yp w0 hb L' v' w'/\Gb (hpS hb v) w w'/\L7 w v v':=by
 have CP:=Aoy (Afx w0 hb L v p (by omega) w H)
 have HL:=Aoy H.low;have HV:=Aoy H.row;have mP:=Acm (.pointer (some ⟨hb,0,none⟩));have mN:=A7c (.pointer (some ⟨hb,0,none⟩));have HU:=Aoy (Agl L p hH);clear H hH;generalize (Ah p).toArray=cp at *
 go_enter Vp.func36,Tryz.ntmps36
 go_wp2_with fail
 refine CP.out.mono ?_
 rintro e w1 ⟨rfl,v1,H1,hc1,hm1⟩;have hrow:=H1.row;rw[show(L++[p]).length=L.length+1 by simp]at hrow
 obtain⟨g,cap,rfl,-,-⟩:=ownsRow_form hrow (by omega)
 have hgh:hb≠g:=fun e=>H1.ne (by rw[<-e];rfl)
 obtain⟨RW,hBg,hcm⟩:=H9 (d:=(L++[p]).toArray) (by simpa using hrow) (by simp)
 have HC1:=Aoy hc1;have HM1:=Aoy hm1;have HI1:=Aoy H1;have CN:=Aoy (Aci hb g (L.length+1) cap w1 H1.hps);clear CP hrow H1 hc1 hm1
 go_wp2_with fail
 refine CN.out.mono ?_
 rintro e w2 ⟨rfl,hb2⟩;have HI2:=Aoy (HI1.out.step hb2);have HC2:=Aoy (HC1.out.trans (Gb.Ay hb2));have CU:=Aoy (Al9 hb g (L.length+1) cap L.length (L++[p]).toArray (by simp) (by omega) (by omega) w2 hgh HI2.out.hps (RW.step hb2))
 have wr1:IntKind.i64.wrap (((L.length+1:Nat):Int)-1)=(L.length:Int):=by
  rw[show((L.length+1:Nat):Int)-1=(L.length:Int) by omega]
  exact Aq4 _ (by omega)
 clear CN hb2 RW;generalize hn1:L.length+1=n1 at *
 go_wp2_with fail
 refine CU.out.mono ?_
 rintro e w3 ⟨rfl,ho3,hr3⟩;have HO3:=Aoy ho3;have HR3:=Aoy hr3;clear ho3 hr3 CU
 go_wp2
 go_end0
 obtain⟨hp,hk⟩:=HU.out;have hsz:(Py Ec n1 (L++[p]).toArray L.length).size=n1:=by rw[Adm,<-hn1];simp
 have hg:hpS hb v g\/w.heap.size<=g:=by
  rcases HM1.out with h |⟨g',h,h2⟩
  ·exact .inl (.inr h.symm)
  ·injection h with h
   have h:g=g':=h
   exact .inr (by rw[h];exact h2)
 have hll:(Py Ec n1 (L++[p]).toArray L.length).toList.length=n1:=by rw[Aqw,hsz]
 refine⟨rfl,_,.slice (some ⟨g,0,none⟩) n1 cap,hp,?_,⟨?_,?_,HL.out⟩,HC2.out.only HO3.out hg,HM1.out⟩
 ·rw[hll]
  simpa using hk
 ·exact(Gb.A7h (S:=fun k=>k=g) HO3.out rfl).box HI2.out.box (fun e=>hgh e) (fun k hk=>by rw[hk];exact hBg)
 ·rw[hll];have:=J2 HR3.out hBg hcm n1 (by omega)
  rwa [Ar3 (by omega)]at this
theorem A4x (w0:World)(hb m:Nat)(L:List Ae)(v:Value)(hL:L.length=m+1)(hm:m<=500)(hH:Jy Ec L.length L.toArray)(w:World)(H:Yp w0 hb L v w) :
 Calls Vp.prog 39 #[.iface 79 (.pointer (some ⟨hb,0,none⟩))] w fun e w' =>
  ∃p L' v',e=.returned (.iface 52 (.agg (Ah p).toArray)) /\(p :: L').Perm L /\(∀q∈L,Ec q p=false)/\Jy Ec L'.length L'.toArray/\Yp w0 hb L' v' w'/\Gb (hpS hb v) w w'/\v'.ownBlock=v.ownBlock:=by
 have hrow:=H.row;rw[hL]at hrow;obtain⟨g,cap,rfl,-,-⟩:=ownsRow_form hrow (by omega)
 have hgh:hb≠g:=fun e=>H.ne (by rw[<-e];rfl)
 obtain⟨RW,hBg,hcm⟩:=H9 (d:=L.toArray) (by simpa using hrow) (by simpa using hL)
 have HI:=Aoy H;have mN:=A7c (.pointer (some ⟨hb,0,none⟩));have mS:=Tv (.pointer (some ⟨hb,0,none⟩));have mP:=Afn (.pointer (some ⟨hb,0,none⟩));have CN:=Aoy (Aci hb g (m+1) cap w H.hps);have HRW:=Aoy RW;have HLL:=Aoy hL;rw[hL]at hH;have HH:=Aoy hH
 have wr1:IntKind.i64.wrap (((m+1:Nat):Int)-1)=(m:Int):=by
  rw[show((m+1:Nat):Int)-1=(m:Int) by omega]
  exact Aq4 _ (by omega)
 clear H hrow RW hL hH
 go_enter Vp.func39,Tryz.ntmps39
 go_wp2_with fail
 refine CN.out.mono ?_
 rintro e w1 ⟨rfl,hb1⟩;have HI1:=Aoy (HI.out.step hb1);have HC1:Hid (Gb (fun k=>k=g) w w1):=Gb.Ay hb1
 have hsz:L.toArray.size=m+1:=by simpa using HLL.out
 have CS:=Aoy (Sg hb g (m+1) cap 0 m L.toArray hsz (by omega) (by omega) w1 HI1.out.hps (HRW.out.step hb1))
 clear hb1 CN
 go_wp2_with fail
 refine CS.out.mono ?_
 rintro e w2 ⟨rfl,ho2,hr2⟩;have HC2:=Aoy (HC1.out.only ho2 (.inl rfl));have HS2:=Aoy (HI1.out.hps.only ho2 hgh);have CD:=Aoy (Af1 hb g (m+1) cap 0 m (swp L.toArray 0 m) (by rw[swp_size];exact hsz) (by omega) (by omega) (by omega) w2 hgh HS2.out hr2)
 clear ho2 hr2 CS
 go_wp2_with fail
 refine CD.out.mono ?_
 rintro e w3 ⟨⟨bz,rfl⟩,ho3,hr3⟩;have HC3:=Aoy (HC2.out.only ho3 (.inl rfl));obtain⟨d1,hd1⟩:∃d1,Dk Ec m (m+1) (swp L.toArray 0 m) 0=d1:=⟨_,rfl⟩;rw[hd1]at hr3;obtain⟨q1,q2,q3,q4⟩:=A8r m L HLL.out HH.out d1 hd1
 have HI3:Hid (Yp w0 hb d1.toList (.slice (some ⟨g,0,none⟩) (m+1) cap) w3):=by
  have hll:d1.toList.length=m+1:=by rw[Aqw,q4]
  refine⟨HC3.out.box HI.out.box (fun e=>hgh e) (fun k hk=>by rw[hk];exact hBg),?_,HI.out.low⟩
  rw[hll];have:=J2 hr3 hBg hcm (m+1) (by omega)
  rwa [Ar3 (by omega)]at this
 have CP:=Aoy (Aig w0 hb m d1.toList (.slice (some ⟨g,0,none⟩) (m+1) cap) d1[m]! (by rw[Aqw,q4]) (by omega) (by rw[Ar6,Ap5 (by omega),As7 d1 m (by omega)]) w3 HI3.out)
 have HQ:=Aoy (And.intro q1 (And.intro q2 (And.intro q3 q4)));clear ho3 hr3 CD q1 q2 q3 q4 hd1;generalize d1[m]! = p at *;have HCP:Hid (∃cp,(Ah p).toArray=cp):=⟨_,rfl⟩;obtain⟨cp,hcp⟩:=HCP.out;rw[hcp]at CP
 go_wp2_with fail
 refine CP.out.mono ?_
 rintro e w4 ⟨rfl,v4,h4,hc4,hv4⟩;have H4:=Aoy h4;have HC4:=Aoy hc4;have HV4:=Aoy hv4;have HCQ:=Aoy hcp;clear h4 hc4 hv4 CP hcp
 go_wp2
 go_ret
 obtain⟨q1,q2,q3,q4⟩:=HQ.out
 refine⟨p,_,v4,by rw[HCQ.out];rfl,q1,q2,?_,H4.out,(HC3.out.mono fun k _ hk=>.inr (by rw[hk];rfl)).trans (HC4.out.mono fun k _ hk=>.inl hk),HV4.out⟩
 rw[show(d1.toList.take m).length=m by rw[Arr,Aqw,q4];omega]
 exact q3
end
end Go.Proofs.YtlfleicchbgcmaaGreat
