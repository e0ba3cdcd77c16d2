import Derived.Test.YtlfleicchbgcmaaGreatZq21
import Derived.Test.YtlfleicchbgcmaaGreatZq0
import Derived.Test.YtlfleicchbgcmaaGreatZqK
set_option linter.all false
set_option maxHeartbeats 16000000
set_option maxRecDepth 100000
namespace Go.Proofs.YtlfleicchbgcmaaGreat
section
open Go.RowKit Go.Sort
attribute [local go_sem ↓] Go.wp_at_zero Go.wp_at_succ
section
variable {α : Type} [Inhabited α] (lt : α -> α -> Bool)
theorem Xx (d:Array α)(i n:Nat):i<M3 lt d i n:=by
 unfold M3
 split<;>omega
theorem A2z (n:Nat):∀(f g:Nat) (d:Array α) (i:Nat),n<f+i->n<g+i->Db lt n f d i=Db lt n g d i:=by
 intro f
 induction f with
 | zero =>
   intro g d i h h'
   cases g with
   | zero=>rfl
   | succ g=>unfold Db;rw[Aij (by omega)]
 | succ f ih =>
   intro g d i h h'
   cases g with
   | zero=>unfold Db;rw[Aij (by omega)]
   | succ g =>
     unfold Db
     by_cases h0:n<=2*i+1
     ·rw[Aij h0,Aij h0]
     ·rw[Aid h0,Aid h0];have:=Xx lt d i n
      by_cases hl:lt d[M3 lt d i n]! d[i]! = true
      ·rw[Aij hl,Aij hl]
       exact ih _ _ _ (by omega) (by omega)
      ·rw[Aid hl,Aid hl]
theorem Jm (n:Nat)(d:Array α)(i:Nat)(h:n<=2*i+1\/lt d[M3 lt d i n]! d[i]! = false):Db lt n (n+1) d i=d:=by
 unfold Db
 rcases h with h|h
 ·rw[Aij h]
 ·by_cases h0:n<=2*i+1
  ·rw[Aij h0]
  ·rw[Aid h0,Aid (by rw[h];simp)]
theorem A09 (n:Nat)(d:Array α)(i:Nat)(h0:2*i+1<n)(h:lt d[M3 lt d i n]! d[i]! = true):Db lt n (n+1) d i=Db lt n (n+1) (swp d (M3 lt d i n) i) (M3 lt d i n):=by
 rw[Db,Aid (by omega),Aij h]
 have:=Xx lt d i n
 exact A2z lt n _ _ _ _ (by omega) (by omega)
theorem A3u (n f:Nat)(d:Array α)(i:Nat):(Db lt n f d i).size=d.size:=by
 induction f generalizing d i with
 | zero=>rfl
 | succ f ih =>
   unfold Db
   split
   ·rfl
   ·split
    ·rw[ih,swp_size]
    ·rfl
end
theorem Abt (hb_ g n cap i m:Nat)(d:Array Ad)(hn:d.size=n)(hi:i<n)(hm:m<=n)(hn2:n<=1000)(w:World)(hne:hb_≠g)(H:HpS hb_ g n cap w)(R:Dm g cap d w) :
 Calls Vp.prog 61 #[.iface 79 (.pointer (some ⟨hb_,0,none⟩)),.int .i64 i,.int .i64 m] w fun e w'=>(∃b:Bool,e=.returned (.bool b))/\By g w w'/\Dm g cap (Db E0 m (m+1) d i) w':=by
 have HH:=Ai1 H;have HR:=Ai1 R;have HN:=Ai1 hn;have mL:=A11 (.pointer (some ⟨hb_,0,none⟩));have mS:=Sb (.pointer (some ⟨hb_,0,none⟩));clear H R hn
 go_enter Vp.func61,Tryz.ntmps61
 go_wp2
 go_loopw [7] (fun vi wr=>∃(k:Nat) (d':Array Ad),k<n/\vi=.int .i64 k/\Hid (d'.size=n)/\Hid (By g w wr)/\Hid (Dm g cap d' wr)/\Hid (Db E0 m (m+1) d' k=Db E0 m (m+1) d i)) (fun vi _=>n-(intOf vi).toNat)
 case atStart=>exact⟨i,d,hi,rfl,HN.out,By.refl _ _,HR.out,rfl⟩
 case round =>
  obtain⟨k,d',hk,rfl,HS,HO,HRW,HE⟩:=hrel;have HSS:=Ai1 (HH.out.only HO.out hne);have w0:IntKind.i64.wrap (2 *(k:Int))=2 *(k:Int):=Ajh _ (by omega)
  have w1:IntKind.i64.wrap (2 *(k:Int)+1)=2 *(k:Int)+1:=Ajh _ (by omega)
  have w2:IntKind.i64.wrap (2 *(k:Int)+1+1)=2 *(k:Int)+1+1:=Ajh _ (by omega)
  by_cases h0:m<=2*k+1
  ·have f0:decide ((m:Int)<=2 *(k:Int)+1)=true:=Aip (by omega)
   have HST:Hid (Db E0 m (m+1) d' k=d'):=Jm E0 m d' k (.inl h0);clear h0 w2
   go_wp2
   go_ret
   exact⟨⟨_,rfl⟩,HO.out,by rw[<-HE.out,HST.out];exact HRW.out⟩
  ·have f0:decide ((m:Int)<=2 *(k:Int)+1)=false:=Aj0 (by omega)
   have f1:decide (2 *(k:Int)+1<0)=false:=Aj0 (by omega)
   obtain⟨q,hq⟩:∃q,M3 E0 d' k m=q:=⟨_,rfl⟩;have hqk:k<q:=by rw[<-hq];exact Xx E0 d' k m
   have hqm:q<m:=by rw[<-hq];unfold M3;split<;>omega
   obtain⟨bb,hbb⟩:∃bb:Bool,(decide (2*k+2<m) && E0 d'[2*k+2]! d'[2*k+1]!)=bb:=⟨_,rfl⟩
   have HQ0:Hid (bb=false ->(q:Int)=2 *(k:Int)+1):=fun h=>by
    rw[<-hq,M3,Aid (fun hh=>by rw[<-hbb,Aip hh.1,hh.2]at h;cases h)]
    omega
   have HQ1:Hid (bb=true ->(q:Int)=2 *(k:Int)+1+1):=fun h=>by
    rw[<-hbb,Aia,Aiv]at h;rw[<-hq,M3,Aij h]
    omega
   go_upto_region 6 with fail
   go_cut [33]from 25 to 34 (fun pv wx=>pv=.bool bb/\Hid (Below wr.heap.size wr wx))
   case first =>
    by_cases h2:2*k+2<m
    ·have f2:decide (2 *(k:Int)+1+1<m)=true:=Aip (by omega)
     have CL:=Y8 hb_ g n cap (2*k+2) (2*k+1) d' HS.out (by omega) (by omega) wr HSS.out HRW.out
     have hb2:E0 d'[2*k+2]! d'[2*k+1]! = bb:=by rw[<-hbb,Aip h2,Al5]
     rw[hb2]at CL;have e2:((2*k+2:Nat):Int)=2 *(k:Int)+1+1:=by omega
     have e1:((2*k+1:Nat):Int)=2 *(k:Int)+1:=by omega
     rw[e1,e2]at CL;replace CL:=Ai1 CL;clear h0 hq hqk hqm h2 hbb hb2 e1 e2
     go_wp2_with fail
     refine CL.out.mono ?_
     rintro e w2 ⟨rfl,hb2⟩;have HB2:=Ai1 hb2;clear hb2
     cases bb
     ·go_wp2
      go_meet
      exact⟨rfl,HB2.out⟩
     ·go_wp2
      go_meet
      exact⟨rfl,HB2.out⟩
    ·have f2:decide (2 *(k:Int)+1+1<m)=false:=Aj0 (by omega)
     obtain rfl:bb=false:=by rw[<-hbb,Aj0 h2];rfl
     clear h0 hq hqk hqm h2 hbb
     go_wp2
     go_meet
     exact⟨rfl,Aik _ _⟩
   case rest =>
    obtain⟨rfl,HBC⟩:=hcut;have HO2:=Ai1 (HO.out.trans (By.Aw HBC.out));have HR2:=Ai1 (HRW.out.step HBC.out);have HS2:=Ai1 (HSS.out.step HBC.out);clear f0 f1 w0 w1 w2 hbb;have CL:=Y8 hb_ g n cap q k d' HS.out (by omega) (by omega) wc HS2.out HR2.out
    have hqn:q<n:=by omega
    cases bb with
    | false =>
      have hz:=HQ0.out rfl;clear HQ0 HQ1
      cases hl:E0 d'[q]! d'[k]! with
      | false =>
        have HST:Hid (Db E0 m (m+1) d' k=d'):=Jm E0 m d' k (.inr (by rw[hq];exact hl))
        rw[hl,hz]at CL;replace CL:=Ai1 CL;clear hl hq h0 hz hqk hqm hqn
        go_wp2_with fail
        refine CL.out.mono ?_
        rintro e w3 ⟨rfl,hb3⟩;have HB3:=Ai1 hb3
        go_wp2
        go_ret
        exact⟨⟨_,rfl⟩,HO2.out.trans (By.Aw HB3.out),by rw[<-HE.out,HST.out];exact HR2.out.step HB3.out⟩
      | true =>
        have HGO:Hid (Db E0 m (m+1) (swp d' q k) q=Db E0 m (m+1) d i):=by
         have:=A09 E0 m d' k (by omega) (by rw[hq];exact hl)
         rw[hq]at this
         exact this.symm.trans HE.out
        have CS:Hid (∀W,Below wc.heap.size wc W->Calls Vp.prog 167 #[.pointer (some ⟨hb_,0,none⟩),.int .i64 k,.int .i64 q] W fun e w'=>e=.returned (.tuple #[])/\By g W w'/\Dm g cap (swp d' q k) w'):=fun W hbw=>by
         have:=Qz hb_ g n cap k q d' HS.out (by omega) (by omega) W (HS2.out.step hbw) (HR2.out.step hbw)
         rwa [Tk d' (by have:=HS.out;omega) (by have:=HS.out;omega)]at this
        have HSZ:Hid ((swp d' q k).size=n):=(swp_size _ _ _).trans HS.out;rw[hl,hz]at CL;rw[hz]at CS;replace CL:=Ai1 CL;have HZ:=Ai1 hz;clear hl hq h0 hz
        go_wp2_with fail
        refine CL.out.mono ?_
        rintro e w3 ⟨rfl,hb3⟩;have CS2:=Ai1 (CS.out w3 hb3);have HO3:=Ai1 (HO2.out.trans (By.Aw hb3));clear hb3 CL CS
        go_wp2_with fail
        refine CS2.out.mono ?_
        rintro e w4 ⟨rfl,ho4,hr4⟩;have HO4:=Ai1 (HO3.out.trans ho4);have HR4:=Ai1 hr4;clear ho4 hr4 CS2
        go_wp2
        go_roundw
        case rel=>exact⟨q,swp d' q k,hqn,by rw[HZ.out],HSZ.out,HO4.out,HR4.out,HGO.out⟩
        case measure =>
         have:=HZ.out;simp[intOf]
         omega
    | true =>
      have hz:=HQ1.out rfl;clear HQ0 HQ1
      cases hl:E0 d'[q]! d'[k]! with
      | false =>
        have HST:Hid (Db E0 m (m+1) d' k=d'):=Jm E0 m d' k (.inr (by rw[hq];exact hl))
        rw[hl,hz]at CL;replace CL:=Ai1 CL;clear hl hq h0 hz hqk hqm hqn
        go_wp2_with fail
        refine CL.out.mono ?_
        rintro e w3 ⟨rfl,hb3⟩;have HB3:=Ai1 hb3
        go_wp2
        go_ret
        exact⟨⟨_,rfl⟩,HO2.out.trans (By.Aw HB3.out),by rw[<-HE.out,HST.out];exact HR2.out.step HB3.out⟩
      | true =>
        have HGO:Hid (Db E0 m (m+1) (swp d' q k) q=Db E0 m (m+1) d i):=by
         have:=A09 E0 m d' k (by omega) (by rw[hq];exact hl)
         rw[hq]at this
         exact this.symm.trans HE.out
        have CS:Hid (∀W,Below wc.heap.size wc W->Calls Vp.prog 167 #[.pointer (some ⟨hb_,0,none⟩),.int .i64 k,.int .i64 q] W fun e w'=>e=.returned (.tuple #[])/\By g W w'/\Dm g cap (swp d' q k) w'):=fun W hbw=>by
         have:=Qz hb_ g n cap k q d' HS.out (by omega) (by omega) W (HS2.out.step hbw) (HR2.out.step hbw)
         rwa [Tk d' (by have:=HS.out;omega) (by have:=HS.out;omega)]at this
        have HSZ:Hid ((swp d' q k).size=n):=(swp_size _ _ _).trans HS.out;rw[hl,hz]at CL;rw[hz]at CS;replace CL:=Ai1 CL;have HZ:=Ai1 hz;clear hl hq h0 hz
        go_wp2_with fail
        refine CL.out.mono ?_
        rintro e w3 ⟨rfl,hb3⟩;have CS2:=Ai1 (CS.out w3 hb3);have HO3:=Ai1 (HO2.out.trans (By.Aw hb3));clear hb3 CL CS
        go_wp2_with fail
        refine CS2.out.mono ?_
        rintro e w4 ⟨rfl,ho4,hr4⟩;have HO4:=Ai1 (HO3.out.trans ho4);have HR4:=Ai1 hr4;clear ho4 hr4 CS2
        go_wp2
        go_roundw
        case rel=>exact⟨q,swp d' q k,hqn,by rw[HZ.out],HSZ.out,HO4.out,HR4.out,HGO.out⟩
        case measure =>
         have:=HZ.out;simp[intOf]
         omega
end
section
open Go.RowKit
theorem V7 {ys:List Int}(hy:∀y,y∈ys->-1<=y/\y<=1)(k:Nat)(h:k<ys.length) :
 ∃y:Int,(ys.map Av)[k]?=some (.int .i64 y) /\
  ((y=1/\cnt 1 (ys.take (k+1))=cnt 1 (ys.take k)+1/\cnt (-1) (ys.take (k+1))=cnt (-1) (ys.take k)/\cnt 0 (ys.take (k+1))=cnt 0 (ys.take k)) \/
   (y=-1/\cnt 1 (ys.take (k+1))=cnt 1 (ys.take k)/\cnt (-1) (ys.take (k+1))=cnt (-1) (ys.take k)+1/\cnt 0 (ys.take (k+1))=cnt 0 (ys.take k)) \/
   (y=0/\cnt 1 (ys.take (k+1))=cnt 1 (ys.take k)/\cnt (-1) (ys.take (k+1))=cnt (-1) (ys.take k)/\cnt 0 (ys.take (k+1))=cnt 0 (ys.take k)+1)):=by
 have hb:=hy _ (List.getElem_mem h);have t1:=Rl 1 ys k h;have t2:=Rl (-1) ys k h;have t3:=Rl 0 ys k h
 refine⟨ys[k],by rw[Aiw,Aig h];rfl,?_⟩
 generalize ys[k]=y at *
 rcases(by omega:y=1\/y=-1\/y=0)with rfl|rfl|rfl
 ·exact .inl ⟨rfl,t1,t2,t3⟩
 ·exact .inr (.inl ⟨rfl,t1,t2,t3⟩)
 ·exact .inr (.inr ⟨rfl,t1,t2,t3⟩)
def Fy (ys:List Int)(k:Nat):Array Value:=#[.int .i64 (cnt 1 (ys.take k)),.int .i64 (cnt (-1) (ys.take k)),.int .i64 (cnt 0 (ys.take k))]
theorem Xn {ys:List Int}(k:Nat)(hl:ys.length<=1048576)(v:Int):(cnt v (ys.take k):Int)<=1048576:=by
 have:=Ae8 v (ys.take k);simp at this
 omega
theorem Zt {w W:World}{b:Nat}{ys:List Int}{T:TypeId}(k:Nat)(h:A8 w b (Fy ys k) T W)(hb:w.heap.size<=b) :
 (∀p q r:Nat,cnt 1 (ys.take k)=p->cnt (-1) (ys.take k)=q->cnt 0 (ys.take k)=r ->
  (cnt 1 (ys.take (k+1))=p+1->cnt (-1) (ys.take (k+1))=q->cnt 0 (ys.take (k+1))=r->A8 w b (Fy ys (k+1)) T (W.setCell ⟨b,0,none⟩ (.int .i64 (p+1)))) /\
  (cnt 1 (ys.take (k+1))=p->cnt (-1) (ys.take (k+1))=q+1->cnt 0 (ys.take (k+1))=r->A8 w b (Fy ys (k+1)) T (W.setCell ⟨b,1,none⟩ (.int .i64 (q+1)))) /\
  (cnt 1 (ys.take (k+1))=p->cnt (-1) (ys.take (k+1))=q->cnt 0 (ys.take (k+1))=r+1->A8 w b (Fy ys (k+1)) T (W.setCell ⟨b,2,none⟩ (.int .i64 (r+1))))):=by
 rintro p q r rfl rfl rfl
 refine⟨fun e1 e2 e3=>?_,fun e1 e2 e3=>?_,fun e1 e2 e3=>?_⟩
 ·have:=h.set hb 0 (.int .i64 ((cnt 1 (ys.take k):Int)+1));unfold Fy at this ⊢;rw[e1,e2,e3]
  exact this
 ·have:=h.set hb 1 (.int .i64 ((cnt (-1) (ys.take k):Int)+1));unfold Fy at this ⊢;rw[e1,e2,e3]
  exact this
 ·have:=h.set hb 2 (.int .i64 ((cnt 0 (ys.take k):Int)+1));unfold Fy at this ⊢;rw[e1,e2,e3]
  exact this
theorem K3 (cx cy:Nat)(deep size:Int)(hx:cx<4294967296)(hy:cy<4294967296)(hp:Az cx cy deep size=true)(a a':Option Addr)(n c c':Nat)(ys:List Int)(hl:ys.length<=1048576)(w:World)(hs:Sl w a' (ys.map Av))(hw:C8 size n ys=true) :
 Calls Vp.prog 52 #[.agg #[.complex .f32 cx cy,.int .i64 deep,.int .i64 size,.slice a n c,.slice a' ys.length c']] w fun e w'=>∃b,e=.returned (.tuple #[.slice (some ⟨b,0,none⟩) 3 3,.bool true])/\w.heap.size<=b/\A8 w b (Fy ys ys.length) 3 w':=by
 obtain⟨g1,g2,g3⟩:=Wv hw;have B:=A8.new w #[.complex .f32 cx cy,.int .i64 deep,.int .i64 size,.slice a n c,.slice a' ys.length c'] 35;have HW:=Ai1 (Pw cx cy deep size hx hy hp a a' n c c' ys hl _ (hs.alloc (.cells #[.complex .f32 cx cy,.int .i64 deep,.int .i64 size,.slice a n c,.slice a' ys.length c'] 35)));rw[hw]at HW;have HT:=Ai1 (fun k=>V7 g3 k)
 have HM:=Ai1 (fun k=>Xn k hl)
 have H2:=Ai1 hs;obtain⟨m,hm⟩:∃m,ys.length=m:=⟨_,rfl⟩;rw[hm]at HW B hl HT ⊢;clear hp hs hw hm g1 g2 g3
 go_enter Vp.func52,Tryz.ntmps52
 go_wp2_with fail
 refine HW.out.mono ?_
 rintro e w1 ⟨rfl,hd⟩;replace B:=B.step hd;have hsz:=B.old.size;have R:=(A8.new w1 #[.int .i64 0,.int .i64 0,.int .i64 0] 3).up B.old;replace B:=B.alloc (.cells #[.int .i64 0,.int .i64 0,.int .i64 0] 3);have HB:=Ai1 B;have HR:Hid (A8 w w1.heap.size (Fy ys 0) 3 (w1.alloc (.cells #[.int .i64 0,.int .i64 0,.int .i64 0] 3))):=R;have hlt:=B.lt
 have hne:w.heap.size≠w1.heap.size:=by
  have:=hd.size;simp at this
  omega
 clear hd HW B R
 go_wp2
 generalize hwb:w1.heap.size=wb at *
 go_loopw [5,6] (fun i _ wr=>∃k:Nat,k<=m/\i=.int .i64 k/\Hid (A8 w wb (Fy ys k) 3 wr)/\Hid (A8 w w.heap.size #[.complex .f32 cx cy,.int .i64 deep,.int .i64 size,.slice a n c,.slice a' m c'] 35 wr)) (fun i _ _=>(m-intOf i).toNat)
 case atStart=>exact⟨0,by omega,rfl,HR.out,HB.out⟩
 case round =>
  obtain⟨k,hk,rfl,HR,HB⟩:=hrel;have b4:=HB.out.cell 4 _ rfl;have R:=HR.out
  by_cases hlt:k<m
  ·obtain⟨y,hyk,hy⟩:=HT.out k hlt;obtain⟨b',off',rfl,hc'⟩:=(H2.out.step HB.out.old).at hyk;obtain⟨HS1,HS2,HS3⟩:=Zt k R (by omega) _ _ _ rfl rfl rfl
   replace HS1:=Ai1 HS1;replace HS2:=Ai1 HS2;replace HS3:=Ai1 HS3;have m1:=HM.out k 1;have m2:=HM.out k (-1);have m3:=HM.out k 0;have c0:=R.cell 0 (.int .i64 (cnt 1 (ys.take k))) rfl;have c1:=R.cell 1 (.int .i64 (cnt (-1) (ys.take k))) rfl;have c2:=R.cell 2 (.int .i64 (cnt 0 (ys.take k))) rfl;have f0:=R.frozen 0;have f1:=R.frozen 1;have f2:=R.frozen 2;have hlw:=R.lt;clear hyk R;obtain⟨p,hp⟩:∃p,cnt 1 (ys.take k)=p:=⟨_,rfl⟩;obtain⟨q,hq⟩:∃q,cnt (-1) (ys.take k)=q:=⟨_,rfl⟩;obtain⟨r,hr⟩:∃r,cnt 0 (ys.take k)=r:=⟨_,rfl⟩;rw[hp]at HS1 HS2 HS3 m1 hy c0;rw[hq]at HS1 HS2 HS3 m2 hy c1;rw[hr]at HS1 HS2 HS3 m3 hy c2;have HP:=Ai1 hp;have HQ:=Ai1 hq;have HRR:=Ai1 hr;clear hp hq hr
   rcases hy with⟨rfl,e1,e2,e3⟩ |⟨rfl,e1,e2,e3⟩ |⟨rfl,e1,e2,e3⟩
   ·have HN:=Ai1 (HS1.out e1 e2 e3);have HB2:=Ai1 (HB.out.other (p:=⟨wb,0,none⟩) (by simp;omega) hne (.int .i64 (p+1)))
    clear e1 e2 e3 HS1 HS2 HS3
    go_wp2
    go_roundw
    case rel=>exact⟨k+1,by omega,by go_num,HN.out,HB2.out⟩
    case measure=>simp[intOf];omega
   ·have HN:=Ai1 (HS2.out e1 e2 e3);have HB2:=Ai1 (HB.out.other (p:=⟨wb,1,none⟩) (by simp;omega) hne (.int .i64 (q+1)))
    clear e1 e2 e3 HS1 HS2 HS3
    go_wp2
    go_roundw
    case rel=>exact⟨k+1,by omega,by go_num,HN.out,HB2.out⟩
    case measure=>simp[intOf];omega
   ·have HN:=Ai1 (HS3.out e1 e2 e3);have HB2:=Ai1 (HB.out.other (p:=⟨wb,2,none⟩) (by simp;omega) hne (.int .i64 (r+1)))
    clear e1 e2 e3 HS1 HS2 HS3
    go_wp2
    go_roundw
    case rel=>exact⟨k+1,by omega,by go_num,HN.out,HB2.out⟩
    case measure=>simp[intOf];omega
  ·go_wp2
   go_ret2
   obtain rfl:k=m:=by omega
   exact⟨wb,rfl,by omega,HR.out⟩
theorem Kg (a':Option Addr)(c':Nat)(ys:List Int)(hl:ys.length<=1048576)(hm1:∀y,y∈ys->-1<=y/\y<=1)(w:World)(hs:Sl w a' (ys.map Av)) :
 Calls Vp.prog 17 #[.slice a' ys.length c'] w fun e w'=>e=.returned (.agg (Fy ys ys.length))/\Below w.heap.size w w':=by
 have HT:=Ai1 (fun k=>V7 hm1 k)
 have HM:=Ai1 (fun k=>Xn k hl)
 have H2:=Ai1 hs;obtain⟨m,hm⟩:∃m,ys.length=m:=⟨_,rfl⟩;rw[hm]at hl HT ⊢;have R0:=(A8.new w #[.int .i64 0,.int .i64 0,.int .i64 0] 53).alloc (.cells #[.int .i64 0,.int .i64 0,.int .i64 0] 53);have O0:=(A8.new (w.alloc (.cells #[.int .i64 0,.int .i64 0,.int .i64 0] 53)) #[.int .i64 0,.int .i64 0,.int .i64 0] 53).up ((Aik w.heap.size w).alloc (Ai3 _) _);rw[show(w.alloc (.cells #[.int .i64 0,.int .i64 0,.int .i64 0] 53)).heap.size=w.heap.size+1 by simp]at O0
 have HB:Hid (A8 w w.heap.size #[.int .i64 0,.int .i64 0,.int .i64 0] 53 ((w.alloc (.cells #[.int .i64 0,.int .i64 0,.int .i64 0] 53)).alloc (.cells #[.int .i64 0,.int .i64 0,.int .i64 0] 53))):=R0;have HR:Hid (A8 w (w.heap.size+1) (Fy ys 0) 53 ((w.alloc (.cells #[.int .i64 0,.int .i64 0,.int .i64 0] 53)).alloc (.cells #[.int .i64 0,.int .i64 0,.int .i64 0] 53))):=O0;clear hs hm1 R0 O0 hm
 go_enter Vp.func17,Tryz.ntmps17
 go_wp2
 go_loopw [5,8,17,23] (fun _ i _ _ wr=>∃k:Nat,k<=m/\i=.int .i64 k/\Hid (A8 w w.heap.size #[.int .i64 0,.int .i64 0,.int .i64 0] 53 wr)/\Hid (A8 w (w.heap.size+1) (Fy ys k) 53 wr)) (fun _ i _ _ _=>(m-intOf i).toNat)
 case atStart=>exact⟨0,by omega,rfl,HB.out,HR.out⟩
 case round =>
  obtain⟨k,hk,rfl,HB,HR⟩:=hrel;have R:=HR.out
  by_cases hlt:k<m
  ·obtain⟨y,hyk,hy⟩:=HT.out k hlt;obtain⟨b',off',rfl,hc'⟩:=(H2.out.step HB.out.old).at hyk;obtain⟨HS1,HS2,HS3⟩:=Zt k R (by omega) _ _ _ rfl rfl rfl
   replace HS1:=Ai1 HS1;replace HS2:=Ai1 HS2;replace HS3:=Ai1 HS3;have m1:=HM.out k 1;have m2:=HM.out k (-1);have m3:=HM.out k 0;have c0:=R.cell 0 (.int .i64 (cnt 1 (ys.take k))) rfl;have c1:=R.cell 1 (.int .i64 (cnt (-1) (ys.take k))) rfl;have c2:=R.cell 2 (.int .i64 (cnt 0 (ys.take k))) rfl;have f0:=R.frozen 0;have f1:=R.frozen 1;have f2:=R.frozen 2;have hlw:=R.lt;clear hyk R;obtain⟨p,hp⟩:∃p,cnt 1 (ys.take k)=p:=⟨_,rfl⟩;obtain⟨q,hq⟩:∃q,cnt (-1) (ys.take k)=q:=⟨_,rfl⟩;obtain⟨r,hr⟩:∃r,cnt 0 (ys.take k)=r:=⟨_,rfl⟩;rw[hp]at HS1 HS2 HS3 m1 hy c0;rw[hq]at HS1 HS2 HS3 m2 hy c1;rw[hr]at HS1 HS2 HS3 m3 hy c2;have HP:=Ai1 hp;have HQ:=Ai1 hq;have HRR:=Ai1 hr;clear hp hq hr
   rcases hy with⟨rfl,e1,e2,e3⟩ |⟨rfl,e1,e2,e3⟩ |⟨rfl,e1,e2,e3⟩
   ·have HN:=Ai1 (HS1.out e1 e2 e3);have HB2:=Ai1 (HB.out.other (p:=⟨w.heap.size+1,0,none⟩) (by simp) (by simp) (.int .i64 (p+1)))
    clear e1 e2 e3 HS1 HS2 HS3
    go_wp2
    go_roundw
    case rel=>exact⟨k+1,by omega,by go_num,HB2.out,HN.out⟩
    case measure=>simp[intOf];omega
   ·have HN:=Ai1 (HS2.out e1 e2 e3);have HB2:=Ai1 (HB.out.other (p:=⟨w.heap.size+1,1,none⟩) (by simp) (by simp) (.int .i64 (q+1)))
    clear e1 e2 e3 HS1 HS2 HS3
    go_wp2
    go_roundw
    case rel=>exact⟨k+1,by omega,by go_num,HB2.out,HN.out⟩
    case measure=>simp[intOf];omega
   ·have HN:=Ai1 (HS3.out e1 e2 e3);have HB2:=Ai1 (HB.out.other (p:=⟨w.heap.size+1,2,none⟩) (by simp) (by simp) (.int .i64 (r+1)))
    clear e1 e2 e3 HS1 HS2 HS3
    go_wp2
    go_roundw
    case rel=>exact⟨k+1,by omega,by go_num,HB2.out,HN.out⟩
    case measure=>simp[intOf];omega
  ·obtain rfl:k=m:=by omega
   have B:=HB.out;have c0:=R.cell 0 (.int .i64 (cnt 1 (ys.take k))) rfl;have c1:=R.cell 1 (.int .i64 (cnt (-1) (ys.take k))) rfl;have c2:=R.cell 2 (.int .i64 (cnt 0 (ys.take k))) rfl;have d0:=B.cell 0 (.int .i64 0) rfl;have d1:=B.cell 1 (.int .i64 0) rfl;have d2:=B.cell 2 (.int .i64 0) rfl;have f0:=B.frozen 0;have f1:=B.frozen 1;have f2:=B.frozen 2;have hbl:=B.lt;have HD:=Ai1 (((B.old.setCell (p:=⟨w.heap.size,0,none⟩) (Ai3 _) (.int .i64 (cnt 1 (ys.take k)))).setCell (p:=⟨w.heap.size,1,none⟩) (Ai3 _) (.int .i64 (cnt (-1) (ys.take k)))).setCell (p:=⟨w.heap.size,2,none⟩) (Ai3 _) (.int .i64 (cnt 0 (ys.take k))));clear R B
   go_wp2
   exact Ai6 (v:=.agg (Fy ys k)) (by simp[results,Tryz.f17,go_sem,Fy,d0,d1,d2]) rfl ⟨rfl,HD.out⟩
theorem Qc (cx cy:Nat)(deep size:Int)(hx:cx<4294967296)(hy:cy<4294967296)(hp:Az cx cy deep size=true)(a a':Option Addr)(n c c':Nat)(ys:List Int)(hl:ys.length<=1048576)(w:World)(hs:Sl w a' (ys.map Av))(hw:C8 size n ys=true) :
 Calls Vp.prog 10 #[.agg #[.complex .f32 cx cy,.int .i64 deep,.int .i64 size,.slice a n c,.slice a' ys.length c']] w fun e w'=>∃b,e=.returned (.tuple #[.slice (some ⟨b,0,none⟩) 3 3,.bool true])/\w.heap.size<=b/\A8 w b (Fy ys ys.length) 3 w':=by
 obtain⟨g1,g2,g3⟩:=Wv hw;have B:=A8.new w #[.complex .f32 cx cy,.int .i64 deep,.int .i64 size,.slice a n c,.slice a' ys.length c'] 35;have HW:=Ai1 (Pm cx cy deep size hx hy hp a a' n c c' ys hl _ (hs.alloc (.cells #[.complex .f32 cx cy,.int .i64 deep,.int .i64 size,.slice a n c,.slice a' ys.length c'] 35)));rw[hw]at HW;have HC:Hid (∀W,Below w.heap.size w W->Calls Vp.prog 17 #[.slice a' ys.length c'] W fun e w'=>e=.returned (.agg (Fy ys ys.length))/\Below W.heap.size W w'):=fun W hW=>Kg a' c' ys hl g3 W (hs.step hW)
 have HM:=fun v=>Xn ys.length hl v
 obtain⟨m,hm⟩:∃m,ys.length=m:=⟨_,rfl⟩;rw[hm]at HW B hl HC HM ⊢;have m1:=HM 1;have m2:=HM (-1);have m3:=HM 0;clear hp hs hw hm g1 g2 g3 HM
 go_enter Vp.func10,Tryz.ntmps10
 go_wp2_with fail
 refine HW.out.mono ?_
 rintro e w1 ⟨rfl,hd⟩;replace B:=B.step hd;have b4:=B.cell 4 _ rfl;have HB:=Ai1 B;clear hd HW B
 go_wp2_with fail
 refine(HC.out _ HB.out.old).mono ?_
 rintro e w2 ⟨rfl,hd⟩;have B:=HB.out.step hd;have hsz:=B.old.size;have hbw:=B.lt;have HD:=Ai1 B.old;clear hd B HB b4;obtain⟨p,q,r,HX,p1,q1,r1⟩:∃p q r:Nat,Hid (Fy ys m=#[.int .i64 p,.int .i64 q,.int .i64 r]) /\(p:Int)<=1048576 /\(q:Int)<=1048576 /\(r:Int)<=1048576:=⟨_,_,_,rfl,m1,m2,m3⟩;have R:=(A8.new (w2.alloc (.cells #[.int .i64 p,.int .i64 q,.int .i64 r] 53)) #[.int .i64 p,.int .i64 q,.int .i64 r] 3).up (HD.out.alloc hsz (.cells #[.int .i64 p,.int .i64 q,.int .i64 r] 53));rw[show(w2.alloc (.cells #[.int .i64 p,.int .i64 q,.int .i64 r] 53)).heap.size=w2.heap.size+1 by simp]at R
 have HR:=Ai1 R;clear m1 m2 m3 R;rw[HX.out]
 go_wp2
 go_ret2
 exact⟨w2.heap.size+1,rfl,by omega,by rw[HX.out];exact HR.out⟩
end
section
open Go.RowKit Flo
attribute [local go_sem] A7 A5
theorem A6x (t:JT)(B:Nat)(w:World)(h:t.Ok B w)(hw:C8 t.size t.xs.length t.ys=true) :
 Calls Vp.prog 49 #[.agg #[.complex .f32 t.cx t.cy,.int .i64 t.deep,.int .i64 t.size,.slice t.a1 t.xs.length t.c1,.slice t.a2 t.ys.length t.c2]] w fun e w'=>e=.returned (.int .i64 (cnt 0 t.ys:Nat))/\Below w.heap.size w w':=by
 have X:=A8.new w #[.complex .f32 t.cx t.cy,.int .i64 t.deep,.int .i64 t.size,.slice t.a1 t.xs.length t.c1,.slice t.a2 t.ys.length t.c2] 35;have h':=Pc.step h X.old;have hlm:=h.lim;have CC:=K3 t.cx t.cy t.deep t.size h.bx h.by1 h.pl t.a1 t.a2 t.xs.length t.c1 t.c2 t.ys (by omega) _ h'.s2 hw
 have hcq:Fy t.ys t.ys.length=#[.int .i64 (cnt 1 t.ys:Nat),.int .i64 (cnt (-1) t.ys:Nat),.int .i64 (cnt 0 t.ys:Nat)]:=by unfold Fy;rw[Amz]
 rw[hcq]at CC;replace CC:=Ai1 CC;have HX:=Ai1 X;obtain⟨x0,x1,x2,x3,x4⟩:=X.Aa;clear X h h' hlm hcq hw;generalize cnt 1 t.ys=m0 at *;generalize cnt (-1) t.ys=m1 at *;generalize cnt 0 t.ys=m2 at *
 go_enter Vp.func49,Tryz.ntmps49
 go_wp2_with fail
 refine CC.out.mono ?_
 rintro e w1 ⟨b,rfl,hb,hC⟩;have c2:=hC.cell 2 _ rfl;have HB:=Ai1 (HX.out.step hC.old).old;clear hC CC x0 x1 x2 x3 x4
 go_wp2
 go_ret
 exact⟨rfl,HB.out⟩
end
section
open Go.RowKit Flo
attribute [local go_sem ↓] Go.wp_at_zero Go.wp_at_succ
structure PM (w:World)(rb ob:Nat)(pv:Value)(m:Nat)(ms:List Int)(mkv:Value)(p q r:Int)(W:World):Prop where
 O:A8 w ob #[pv,mkv,.int .i64 p,.int .i64 q,.int .i64 r] 29 W
 R:A8 w rb #[.slice none 0 0,.slice none 0 0,.int .i64 0,.int .i64 0,.int .i64 0] 29 W
 M:W.ownsRow w.heap.size 3 1 mkv m (ms.map Av)
 ne:rb≠ob
 hr:w.heap.size<=rb
 ho:w.heap.size<=ob
theorem PM.step {w:World}{rb ob m:Nat}{pv mkv:Value}{ms:List Int}{p q r:Int}{W W':World}(h:PM w rb ob pv m ms mkv p q r W)(k:Below W.heap.size W W'):PM w rb ob pv m ms mkv p q r W' :=
 ⟨h.O.step k,h.R.step k,Ab h.M k,h.ne,h.hr,h.ho⟩
theorem PM.alloc {w:World}{rb ob m:Nat}{pv mkv:Value}{ms:List Int}{p q r:Int}{W:World}(h:PM w rb ob pv m ms mkv p q r W)(o:Obj):PM w rb ob pv m ms mkv p q r (W.alloc o):=h.step ((Aik _ _).alloc (Ai3 _) o)
theorem PM.mark {w:World}{rb ob m:Nat}{pv mkv v':Value}{ms:List Int}{p q r:Int}{W W':World}(h:PM w rb ob pv m ms mkv p q r W){z:Int}(hown:W'.ownsRow w.heap.size 3 1 v' (m+1) (ms.map Av++[Av z]))(hg:W.grownBy W' mkv.ownBlock) :
 PM w rb ob pv (m+1) (ms++[z]) v' p q r (W'.setCell ⟨ob,1,none⟩ v')/\W'.cell? ⟨ob,1,none⟩=some mkv/\W'.frozen? ⟨ob,1,none⟩=false:=by
 have hrow:∀k,mkv.ownBlock=some k->w.heap.size<=k:=fun k hk=>(h.M.lt k hk).1
 have O:=h.O.grown hg (Af h.M h.O.blk (by decide)) hrow
 have R:=h.R.grown hg (Af h.M h.R.blk (by decide)) hrow
 refine⟨⟨?_,R.other (p:=⟨ob,1,none⟩) h.ho h.ne _,?_,h.ne,h.hr,h.ho⟩,O.cell 1 _ rfl,O.frozen 1⟩
 ·have:=O.set h.ho 1 v'
  exact this
 ·rw[Aj1]
  exact A6 hown O.blk (by decide) _
theorem PM.Sx {w:World}{rb ob m:Nat}{pv mkv:Value}{ms:List Int}{p q r:Int}{W:World}(h:PM w rb ob pv m ms mkv p q r W)(x:Int):PM w rb ob pv m ms mkv x q r (W.setCell ⟨ob,2,none⟩ (.int .i64 x)) :=
 ⟨h.O.set h.ho 2 _,h.R.other (p:=⟨ob,2,none⟩) h.ho h.ne _,A6 h.M h.O.blk (by decide) _,h.ne,h.hr,h.ho⟩
theorem PM.Af8 {w:World}{rb ob m:Nat}{pv mkv:Value}{ms:List Int}{p q r:Int}{W:World}(h:PM w rb ob pv m ms mkv p q r W)(x:Int):PM w rb ob pv m ms mkv p x r (W.setCell ⟨ob,3,none⟩ (.int .i64 x)) :=
 ⟨h.O.set h.ho 3 _,h.R.other (p:=⟨ob,3,none⟩) h.ho h.ne _,A6 h.M h.O.blk (by decide) _,h.ne,h.hr,h.ho⟩
theorem PM.A1p {w:World}{rb ob m:Nat}{pv mkv:Value}{ms:List Int}{p q r:Int}{W:World}(h:PM w rb ob pv m ms mkv p q r W)(x:Int):PM w rb ob pv m ms mkv p q x (W.setCell ⟨ob,4,none⟩ (.int .i64 x)) :=
 ⟨h.O.set h.ho 4 _,h.R.other (p:=⟨ob,4,none⟩) h.ho h.ne _,A6 h.M h.O.blk (by decide) _,h.ne,h.hr,h.ho⟩
theorem PM.fin {w:World}{rb ob m:Nat}{pv mkv:Value}{ms:List Int}{p q r:Int}{W:World}(h:PM w rb ob pv m ms mkv p q r W)(u0 u1 u2 u3 u4:Value) :
 (((((W.setCell ⟨rb,0,none⟩ u0).setCell ⟨rb,1,none⟩ u1).setCell ⟨rb,2,none⟩ u2).setCell ⟨rb,3,none⟩ u3).setCell ⟨rb,4,none⟩ u4).ownsRow w.heap.size 3 1 mkv m (ms.map Av):=by
 have b0:=h.R;have b1:=b0.set h.hr 0 u0;have b2:=b1.set h.hr 1 u1;have b3:=b2.set h.hr 2 u2;have b4:=b3.set h.hr 3 u3
 exact A6 (A6 (A6 (A6 (A6 h.M b0.blk (by decide) u0) b1.blk (by decide) u1) b2.blk (by decide) u2) b3.blk (by decide) u3) b4.blk (by decide) u4
end
section
open Go.RowKit Flo
theorem Tu {P:Program}(w:World){o:Oper}{a:Act}{K:Act->World->Prop}{Q:Exit->Act->World->Prop}(s x:Operand)(t:TypeId)
 (ho:o.op=.call { callee:=.builtin .append,args:=#[s,x],argTypes:=#[t,t] })
 (base:Nat) (e:TypeId) (i:TypeInfo) (z:Value) (size bytes:Nat) (ht:P.underlying t=some (.slice e)) (hi:P.info? e=some i) (hz:i.zero=some z)
 (hsize:i.size=size) (hby:i.bytes=bytes) (hzs:z.cells.size=size) (hsz:0<size)
 (v:Value) (n:Nat) (xs:List Value) (hs:a.eval s=v) (hown:w.ownsRow base e size v n xs)
 (ad:Addr) (m c:Nat) (news:List Value) (hx:a.eval x=.slice (some ad) m c) (hl:news.length=m*size) (hnews:∀j u,news[j]?=some u->w.cell? (ad.add j)=some u) (h1:∀u∈news,u.oneCell'=true)
 (h63:n+m<=maxLen) (hbytes:(n+m)*bytes<=140737488355328) (hbase:base<=w.heap.size)
 (h:∀v' w',w'.ownsRow base e size v' (n+m) (xs++news)->w.grownBy w' v.ownBlock->K (a.put o.dst v') w'):o.wp P a w K Q:=by
 obtain⟨v',w',hr,h2,h3,-,-⟩:=run_append_own_at (P:=P) w base t o.type e i z size bytes ht hi hz hsize hby hzs hsz v n xs hown ad m c news hl hnews h1 h63 hbytes hbase;unfold Oper.wp execOp;simp only[ho,resolve,invoke,builtin,Akp,Sem.run_pure,Ame,Amb,Ak4,Ald,hs,hx,hr]
 exact h v' w' h2 h3
theorem Cp {P:Program}(w:World){ops:Array Oper}{o:Oper}{a:Act}{K:Act->World->Prop}{Q:Exit->Act->World->Prop}{E:Prop}(hgd:o.guard=none)(s x:Operand)(t:TypeId)
 (ho:o.op=.call { callee:=.builtin .append,args:=#[s,x],argTypes:=#[t,t] })
 (base:Nat) (e:TypeId) (i:TypeInfo) (z:Value) (size bytes:Nat) (ht:P.underlying t=some (.slice e)) (hi:P.info? e=some i) (hz:i.zero=some z)
 (hsize:i.size=size) (hby:i.bytes=bytes) (hzs:z.cells.size=size) (hsz:0<size)
 (v:Value) (n:Nat) (xs:List Value) (hs:a.eval s=v) (hown:w.ownsRow base e size v n xs)
 (ad:Addr) (m c:Nat) (news:List Value) (hx:a.eval x=.slice (some ad) m c) (hl:news.length=m*size) (hnews:∀j u,news[j]?=some u->w.cell? (ad.add j)=some u) (h1:∀u∈news,u.oneCell'=true)
 (h63:n+m<=maxLen) (hbytes:(n+m)*bytes<=140737488355328) (hbase:base<=w.heap.size)
 (h:∀v' w',w'.ownsRow base e size v' (n+m) (xs++news)->w.grownBy w' v.ownBlock->K (a.put o.dst v') w') :
 if Region.wanted o (yielded ops a.tmps)=true then Oper.wp P o a w K Q else E:=by
 have hw:Region.wanted o (yielded ops a.tmps)=true:=by simp[Region.wanted,hgd]
 rw[Aij hw]
 exact Tu w s x t ho base e i z size bytes ht hi hz hsize hby hzs hsz v n xs hs hown ad m c news hx hl hnews h1 h63 hbytes hbase h
theorem C9.Adf {B:Nat}{t:Ai}{W:World}(h:C9 B t W):C8 (JT.of t).size (JT.of t).xs.length (JT.of t).ys=true:=by
 have hp:=Bj h.pl;obtain⟨s,hs⟩:=Ajc (show 0<=t.size by omega)
 have e1:t.xs.length=s*s:=by have:=h.made.lx;unfold Ai.n at this;rw[hs,Ajk]at this;exact this
 have e2:t.ys.length=s*s:=by have:=h.made.ly;unfold Ai.n at this;rw[hs,Ajk]at this;exact this
 show C8 t.size t.xs.length t.ys=true
 rw[hs,e1];unfold C8;rw[Aip (Aj3 s s),Aip e2];simp only[Al5,Alo];intro y hy;have:=h.made.hy y hy;unfold Dl Gf;simp only[Aia,Aiv]
 exact this
theorem cells_one {B:Nat}{t:Ai}{W:World}(_:C9 B t W):∀u∈t.cells,u.oneCell'=true:=by
 intro u hu;unfold Ai.cells at hu;simp only[Ajf,Aja,Akv]at hu
 rcases hu with rfl|rfl|rfl|rfl|rfl<;>rfl
theorem Mn {B:Nat}{L:List Ai}{W:World}(h:∀t,t∈L->C9 B t W):∀u∈Ac L,u.oneCell'=true:=by
 intro u hu;unfold Ac at hu;obtain⟨t,ht,hu⟩:=List.mem_flatMap.1 hu
 exact cells_one (h t ht) u hu
theorem G3:∀L:List Ai,(Ac L).length=L.length*5
 | []=>rfl
 | t :: L=>by
   show(t.cells++Ac L).length=_
   rw[Aje,G3 L,Al8,Akc]
   show 5+_=_
   omega
theorem Gb (L M:List Ai):Ac (L++M)=Ac L++Ac M:=by unfold Ac;rw[Anf]
theorem Zn (L:List Ai)(k j:Nat)(u:Value)(h:(Ac (L.take k))[j]?=some u):(Ac L)[j]?=some u:=by
 have e:Ac L=Ac (L.take k)++Ac (L.drop k):=by rw[<-Gb,An2]
 rw[e,Aka (Aii.1 h).1]
 exact h
theorem Zm (L:List Ai)(k j:Nat)(hk:k<=L.length)(u:Value)(h:(Ac (L.drop k))[j]?=some u):(Ac L)[k*5+j]?=some u:=by
 have e:Ac L=Ac (L.take k)++Ac (L.drop k):=by rw[<-Gb,An2]
 have hl:(Ac (L.take k)).length=k*5:=by rw[G3,Akf,Akm hk]
 rw[e,Akq (by omega),hl,Nat.add_sub_cancel_left]
 exact h
theorem Iu (b o j:Nat):(⟨b,o,none⟩:Addr).add j=⟨b,o+j,none⟩:=by unfold Addr.add;split<;>simp_all
theorem Qu {w:World}{base:Nat}{e:TypeId}{size:Nat}{g m cap n:Nat}{xs:List Value}(hn:0<n)(h:w.ownsRow base e size (.slice (some ⟨g,0,none⟩) m cap) n xs):m<=cap:=by
 obtain⟨g',cap',e',-,hc⟩:=ownsRow_form h hn;injection e' with _ e2 e3
 omega
theorem Tn {B g ln cap:Nat}{L:List Ai}{W:World}(h:C3 B L (.slice (some ⟨g,0,none⟩) ln cap) W)(hl:L.length=ln)(j:Nat)(u:Value)(hj:(Ac L)[j]?=some u):W.cell? ⟨g,j,none⟩=some u:=by
 subst hl;have hlt:=(Aii.1 hj).1;rw[G3]at hlt;rw[h.row.cellAt j hlt]
 exact hj
theorem A5z {B g ln cap k:Nat}{L:List Ai}{w:World}(h:C3 B L (.slice (some ⟨g,0,none⟩) ln cap) w)(hl:L.length=ln)(hk:k<=ln) :
 (Ac (L.take k)).length=k*5 /\(∀W,Below w.heap.size w W->∀j u,(Ac (L.take k))[j]?=some u->W.cell? ((⟨g,0,none⟩:Addr).add j)=some u)/\∀u∈Ac (L.take k),u.oneCell'=true:=by
 refine⟨by rw[G3,Akf,Akm (by omega)],fun W d j u hj=>?_,fun u hu=>?_⟩
 ·rw[Iu,Ak1];have h1:=Tn h hl j u (Zn L k j u hj)
  exact(d.cell (p:=⟨g,j,none⟩) (Aix w _ h1)).trans h1
 ·exact Mn (B:=B) (W:=w) (fun t ht=>h.own t (Amc ht)) u hu
theorem Ab9 {B g cap:Nat}{L:List Ai}{w:World}(h:C3 B L (.slice (some ⟨g,0,none⟩) 4 cap) w)(hl:L.length=4) :
 (Ac L).length=4*5 /\(∀W,Below w.heap.size w W->∀j u,(Ac L)[j]?=some u->W.cell? ((⟨g,0,none⟩:Addr).add j)=some u)/\∀u∈Ac L,u.oneCell'=true:=by
 refine⟨by rw[G3,hl],fun W d j u hj=>?_,fun u hu=>Mn h.own u hu⟩
 rw[Iu,Ak1];have h1:=Tn h hl j u hj
 exact(d.cell (p:=⟨g,j,none⟩) (Aix w _ h1)).trans h1
theorem Ad8 {B g ln cap k:Nat}{L:List Ai}{w:World}(h:C3 B L (.slice (some ⟨g,0,none⟩) ln cap) w)(hl:L.length=ln)(hk:k+1<=ln) :
 (Ac (L.drop (k+1))).length=(ln-(k+1))*5 /\(∀W,Below w.heap.size w W->∀j u,(Ac (L.drop (k+1)))[j]?=some u->W.cell? ((⟨g,(k+1)*5,none⟩:Addr).add j)=some u)/\∀u∈Ac (L.drop (k+1)),u.oneCell'=true:=by
 refine⟨by rw[G3,List.length_drop,hl],fun W d j u hj=>?_,fun u hu=>?_⟩
 ·rw[Iu];have h1:=Tn h hl _ u (Zm L (k+1) j (by omega) u hj)
  exact(d.cell (p:=⟨g,(k+1)*5+j,none⟩) (Aix w _ h1)).trans h1
 ·exact Mn (B:=B) (W:=w) (fun t ht=>h.own t (Amd ht)) u hu
theorem Fu {g ln k:Nat}{L:List Ai}{w:World}(hl:L.length=ln)(hk:ln<=k+1) :
 (Ac (L.drop (k+1))).length=(ln-(k+1))*5 /\(∀W,Below w.heap.size w W->∀j u,(Ac (L.drop (k+1)))[j]?=some u->W.cell? ((⟨g,0,none⟩:Addr).add j)=some u)/\∀u∈Ac (L.drop (k+1)),u.oneCell'=true:=by
 have e:L.drop (k+1)=[]:=List.drop_of_length_le (by omega)
 rw[e]
 exact⟨by show 0=_;omega,fun W d j u hj=>by simp[Ac]at hj,fun u hu=>by simp[Ac]at hu⟩
theorem Afo {w w5 w8:World}{g g4 ln cap cap4 k:Nat}{L L4:List Ai}{v3:Value}(h:C3 w.heap.size L (.slice (some ⟨g,0,none⟩) ln cap) w5)(h4:C3 w.heap.size L4 (.slice (some ⟨g4,0,none⟩) 4 cap4) w5)(d:Below w5.heap.size w5 w8)(hl:L.length=ln)(hl4:L4.length=4)(hk:k+1<=ln)(hw:w.heap.size<=w5.heap.size)
 (ho:w8.ownsRow w5.heap.size 35 5 v3 (0+k+4 +(ln-(k+1))) ((([]++Ac (L.take k))++Ac L4)++Ac (L.drop (k+1)))):C3 w.heap.size (L.take k++L4++L.drop (k+1)) v3 w8:=by
 refine⟨?_,fun t ht=>?_⟩
 ·have e1:(L.take k++L4++L.drop (k+1)).length=0+k+4 +(ln-(k+1)):=by
   rw[Aje,Aje,Akf,List.length_drop,hl4,hl,Akm (by omega)];omega
  rw[e1,Gb,Gb]
  exact Fo ho hw
 ·rcases Ajd.1 ht with ht|ht
  ·rcases Ajd.1 ht with ht|ht
   ·exact(h.own t (Amc ht)).step d
   ·exact(h4.own t ht).step d
  ·exact(h.own t (Amd ht)).step d
theorem A22 {w:World}{B g ln cap:Nat}{e:TypeId}{xs:List Value}(h:w.ownsRow B e 1 (.slice (some ⟨g,0,none⟩) ln cap) ln xs)(j:Nat)(u:Value)(hj:xs[j]?=some u):w.cell? ⟨g,j,none⟩=some u:=by
 have hlt:=(Aii.1 hj).1;have hl:=h.1;rw[h.cellAt j (by omega)]
 exact hj
theorem A5u {w:World}{B g ln cap k:Nat}{e:TypeId}{xs:List Value}(h:w.ownsRow B e 1 (.slice (some ⟨g,0,none⟩) ln cap) ln xs)(hk:k<=ln)(ho:∀u∈xs,u.oneCell'=true) :
 (xs.take k).length=k*1 /\(∀W,Below w.heap.size w W->∀j u,(xs.take k)[j]?=some u->W.cell? ((⟨g,0,none⟩:Addr).add j)=some u)/\∀u∈xs.take k,u.oneCell'=true:=by
 have hl:=h.1
 refine⟨by rw[Akf,Akm (by omega),Alq],fun W d j u hj=>?_,fun u hu=>ho u (Amc hu)⟩
 rw[Iu,Ak1];have hjk:j<k:=by have:=(Aii.1 hj).1;rw[Akf]at this;omega
 rw[Alw hjk]at hj;have h1:=A22 h j u hj
 exact(d.cell (p:=⟨g,j,none⟩) (Aix w _ h1)).trans h1
theorem Ad2 {w:World}{B g ln cap k:Nat}{e:TypeId}{xs:List Value}(h:w.ownsRow B e 1 (.slice (some ⟨g,0,none⟩) ln cap) ln xs)(hk:k+1<=ln)(ho:∀u∈xs,u.oneCell'=true) :
 (xs.drop (k+1)).length=(ln-(k+1))*1 /\(∀W,Below w.heap.size w W->∀j u,(xs.drop (k+1))[j]?=some u->W.cell? ((⟨g,k+1,none⟩:Addr).add j)=some u)/\∀u∈xs.drop (k+1),u.oneCell'=true:=by
 have hl:=h.1
 refine⟨by rw[List.length_drop];omega,fun W d j u hj=>?_,fun u hu=>ho u (Amd hu)⟩
 rw[Iu];rw[List.getElem?_drop]at hj;have h1:=A22 h _ u hj
 exact(d.cell (p:=⟨g,k+1+j,none⟩) (Aix w _ h1)).trans h1
theorem Afh {w:World}{g ln k:Nat}{xs:List Value}(hl:xs.length=ln)(hk:ln<=k+1) :
 (xs.drop (k+1)).length=(ln-(k+1))*1 /\(∀W,Below w.heap.size w W->∀j u,(xs.drop (k+1))[j]?=some u->W.cell? ((⟨g,0,none⟩:Addr).add j)=some u)/\∀u∈xs.drop (k+1),u.oneCell'=true:=by
 have e:xs.drop (k+1)=[]:=List.drop_of_length_le (by omega)
 rw[e]
 exact⟨by show 0=_;omega,fun W d j u hj=>by simp at hj,fun u hu=>by simp at hu⟩
theorem A5t {w0 w:World}{nb:Nat}{T:TypeId}{s0 s1 s2 s3:ByteArray}(h:A8 w0 nb #[.string s0,.string s1,.string s2,.string s3] T w) :
 ([.string s0,.string s1,.string s2,.string s3]:List Value).length=4*1 /\(∀W,Below w.heap.size w W->∀j u,([.string s0,.string s1,.string s2,.string s3]:List Value)[j]?=some u->W.cell? ((⟨nb,0,none⟩:Addr).add j)=some u)/\∀u∈([.string s0,.string s1,.string s2,.string s3]:List Value),u.oneCell'=true:=by
 refine⟨rfl,fun W d j u hj=>?_,fun u hu=>?_⟩
 ·rw[Iu,Ak1]
  exact(h.step d).cell j u (by rw[<-Ajv];exact hj)
 ·simp only[Ajf,Aja,Akv]at hu
  rcases hu with rfl|rfl|rfl|rfl<;>rfl
theorem Tj (P:List ByteArray):∀u∈P.map Value.string,u.oneCell'=true:=by
 intro u hu;obtain⟨s,-,rfl⟩:=Aj5.1 hu
 rfl
theorem Gy {w W:World}{base n rb:Nat}{e T:TypeId}{v:Value}{xs:List Value}{v0 v1 v2 v3 v4:Value}(h:W.ownsRow base e 1 v n xs)(R:A8 w rb #[v0,v1,v2,v3,v4] T W)(hr:w.heap.size<=rb)(hne:e≠T)(u0 u1 u2 u3 u4:Value) :
 (((((W.setCell ⟨rb,0,none⟩ u0).setCell ⟨rb,1,none⟩ u1).setCell ⟨rb,2,none⟩ u2).setCell ⟨rb,3,none⟩ u3).setCell ⟨rb,4,none⟩ u4).ownsRow base e 1 v n xs:=by
 have b1:=R.set hr 0 u0;have b2:=b1.set hr 1 u1;have b3:=b2.set hr 2 u2;have b4:=b3.set hr 3 u3
 exact A6 (A6 (A6 (A6 (A6 h R.blk hne u0) b1.blk hne u1) b2.blk hne u2) b3.blk hne u3) b4.blk hne u4
structure PK (w:World)(m:Nat)(L:List Ai)(P:List ByteArray)(lv pv:Value)(W:World):Prop where
 R:A8 w w.heap.size #[.slice none 0 0,.slice none 0 0,.int .i64 0,.int .i64 0,.int .i64 0] 29 W
 T:C3 w.heap.size L lv W
 S:W.ownsRow w.heap.size 9 1 pv L.length (P.map Value.string)
 sz:∀s,s∈P->s.size<=m
 lim:L.length<=1+3*m
 pos:0<L.length
theorem PK.Ahs {w:World}{m:Nat}{L:List Ai}{P:List ByteArray}{lv pv:Value}{W:World}(h:PK w m L P lv pv W):P.length=L.length:=by have:=h.S.1;simpa using this
theorem PK.step {w:World}{m:Nat}{L:List Ai}{P:List ByteArray}{lv pv:Value}{W W':World}(h:PK w m L P lv pv W)(k:Below W.heap.size W W'):PK w m L P lv pv W' :=
 ⟨h.R.step k,h.T.step k,Ab h.S k,h.sz,h.lim,h.pos⟩
end
section
open Go.RowKit Go.Sort
attribute [local go_sem ↓] Go.wp_at_zero Go.wp_at_succ
structure Fx (S:Nat->Prop)(w w':World):Prop where
 os:w'.os=w.os
 tape:w'.tape=w.tape
 output:w'.output=w.output
 size:w.heap.size<=w'.heap.size
 block:∀k,k<w.heap.size->¬S k->w'.heap[k]?=w.heap[k]?
theorem Fx.trans {S:Nat->Prop}{u v w:World}(h:Fx S u v)(k:Fx S v w):Fx S u w :=
 ⟨k.os.trans h.os,k.tape.trans h.tape,k.output.trans h.output,Ai5 h.size k.size,fun i hi hn=>(k.block i (Ai9 hi h.size) hn).trans (h.block i hi hn)⟩
theorem Fx.mono {S S':Nat->Prop}{w w':World}(h:Fx S w w')(hS:∀k,k<w.heap.size->S k->S' k):Fx S' w w':=⟨h.os,h.tape,h.output,h.size,fun k hk hn=>h.block k hk fun hs=>hn (hS k hk hs)⟩
theorem Fx.Aw {S:Nat->Prop}{w w':World}(h:Below w.heap.size w w'):Fx S w w':=⟨h.os,h.tape,h.output,h.size,fun k hk _=>h.block k hk⟩
theorem Fx.A5b {S:Nat->Prop}{w w':World}{g:Nat}(h:By g w w')(hg:S g):Fx S w w':=⟨h.os,h.tape,h.output,h.size,fun k hk hn=>h.block k hk fun e=>hn (e▸hg)⟩
theorem Fx.Np {S:Nat->Prop}{w w':World}{row:Option Nat}(h:w.grownBy w' row)(hr:∀k,row=some k->S k):Fx S w w' :=
 ⟨h.os,h.tape,h.output,h.size,fun k hk hn=>h.block k hk fun e=>hn (hr k e.symm)⟩
theorem Fx.set {S:Nat->Prop}{w w':World}(h:Fx S w w'){b:Nat}(hb:S b)(j:Nat)(v:Value):Fx S w (w'.setCell ⟨b,j,none⟩ v) :=
 h.trans ⟨rfl,rfl,rfl,by simp,fun k _ hn=>Aju _ _ _ _ (by intro e;exact hn (by have e:k=b:=e;subst e;exact hb))⟩
theorem Fx.owns {S:Nat->Prop}{w w':World}(h:Fx S w w'){B:Nat}{e:TypeId}{size:Nat}{v:Value}{n:Nat}{xs:List Value}(k:w.ownsRow B e size v n xs)(hn:∀b,v.ownBlock=some b->¬S b):w'.ownsRow B e size v n xs:=by
 refine⟨k.1,?_⟩
 rcases k.2 with hl |⟨g,cap,cur,rfl,h2,h3,h4⟩
 ·exact .inl hl
 ·exact .inr ⟨g,cap,cur,rfl,h2,(h.block g (Ai2.1 h3).1 (hn g rfl)).trans h3,h4⟩
theorem Fx.below {S:Nat->Prop}{w w':World}(h:Fx S w w')(B:Nat)(hB:B<=w.heap.size)(hS:∀k,S k->B<=k):Below B w w':=⟨h.os,h.tape,h.output,h.size,fun k hk=>h.block k (by omega) fun hs=>by have:=hS k hs;omega⟩
theorem Fx.box {S:Nat->Prop}{w0 w w':World}(h:Fx S w w'){b:Nat}{C:Array Value}{T:TypeId}(k:A8 w0 b C T w)(hb:¬S b)(hS:∀k,S k->w0.heap.size<=k):A8 w0 b C T w' :=
 ⟨(h.block b k.lt hb).trans k.blk,k.old.trans (h.below _ k.old.size hS)⟩
def Ao (L:List Ad):List Value:=L.flatMap Ag
theorem Ji:∀L:List Ad,(Ao L).length=L.length*7
 | []=>rfl
 | p :: L=>by
   show(Ag p++Ao L).length=_
   rw[Aje,Ji L,Fh,Al8,Akc]
   omega
theorem Pg (L:List Ad)(p:Ad):Ao (L++[p])=Ao L++Ag p:=by unfold Ao;rw[Anf,List.flatMap_singleton]
theorem Ol:∀(L:List Ad) (k:Nat) (p:Ad),L[k]?=some p->∀j,j<7 ->(Ao L)[k*7+j]?=(Ag p)[j]?
 | [],k,p,h,_,_=>by simp at h
 | q :: L,0,p,h,j,hj=>by
   obtain rfl:q=p:=by simpa using h
   show(Ag q++Ao L)[0*7+j]?=_
   rw[Aka (by rw[Fh];omega)]
   congr 1
   omega
 | q :: L,k+1,p,h,j,hj=>by
   show(Ag q++Ao L)[(k+1)*7+j]?=_
   rw[Akq (by rw[Fh];omega),Fh,show(k+1)*7+j-7=k*7+j by omega]
   exact Ol L k p (by simpa using h) j hj
theorem Gi {B g cap n:Nat}{d:Array Ad}{w:World}(h:w.ownsRow B 52 7 (.slice (some ⟨g,0,none⟩) n cap) n (Ao d.toList))(hn:d.size=n):Dm g cap d w/\B<=g/\cap<=maxLen:=by
 rcases h.2 with⟨h1,_⟩ |⟨g',cap',cur,h1,h2,h3,h4,h5,h6,h7⟩
 ·cases h1
 ·injection h1 with e1 e2 e3
  injection e1 with e1
  injection e1 with e1
  subst e1 e3
  refine⟨⟨cur,h3,h6,by omega,fun k hk j hj=>?_⟩,h2,h5⟩
  have h8:d.toList[k]?=some d[k]!:=by
   rw[Ajv,Ai8 hk,Aks d k hk]
  have:=Ol d.toList k _ h8 j hj;rw[<-h7,Alw (by omega),Ajv]at this
  exact this
theorem Ig {B g cap:Nat}{d:Array Ad}{w:World}(h:Dm g cap d w)(hB:B<=g)(hc:cap<=maxLen)(m:Nat)(hm:m<=d.size):w.ownsRow B 52 7 (.slice (some ⟨g,0,none⟩) m cap) m (Ao (d.toList.take m)):=by
 obtain⟨cur,h1,h2,h3,h4⟩:=h;have hl:(Ao (d.toList.take m)).length=m*7:=by rw[Ji,Akf,Ajn,Akm hm]
 refine⟨hl,.inr ⟨g,cap,cur,rfl,hB,h1,by omega,hc,h2,?_⟩⟩
 apply List.ext_getElem?
 intro x
 by_cases hx:x<m*7
 ·rw[Alw hx,Ajv];have hk:x / 7<d.size:=by omega
  have h8:(d.toList.take m)[x / 7]?=some d[x / 7]!:=by
   rw[Alw (by omega),Ajv,Ai8 hk,Aks d _ hk]
  have e1:=Ol _ _ _ h8 (x % 7) (by omega)
  have e2:=h4 (x / 7) hk (x % 7) (by omega)
  rw[show x / 7*7+x % 7=x by omega]at e1 e2
  rw[e1,e2]
 ·rw[Am8 (by rw[Akf];omega),Am8 (by omega)]
theorem P6 {P:Program}(w:World){ops:Array Oper}{o:Oper}{a:Act}{K:Act->World->Prop}{Q:Exit->Act->World->Prop}{E:Prop}(hgd:o.guard=none)(s x:Operand)(t:TypeId)
 (ho:o.op=.call { callee:=.builtin .append,args:=#[s,x],argTypes:=#[t,t] })
 (base:Nat) (e:TypeId) (i:TypeInfo) (z:Value) (size bytes:Nat) (ht:P.underlying t=some (.slice e)) (hi:P.info? e=some i) (hz:i.zero=some z)
 (hsize:i.size=size) (hby:i.bytes=bytes) (hzs:z.cells.size=size) (hsz:0<size)
 (v:Value) (n:Nat) (xs:List Value) (hs:a.eval s=v) (hown:w.ownsRow base e size v n xs)
 (ad:Addr) (m c:Nat) (news:List Value) (hx:a.eval x=.slice (some ad) m c) (hl:news.length=m*size) (hnews:∀j u,news[j]?=some u->w.cell? (ad.add j)=some u) (h1:∀u∈news,u.oneCell'=true)
 (h63:n+m<=maxLen) (hbytes:(n+m)*bytes<=140737488355328) (hbase:base<=w.heap.size)
 (h:∀v' w',w'.ownsRow base e size v' (n+m) (xs++news)->w.grownBy w' v.ownBlock ->(v'.ownBlock=v.ownBlock\/v'.ownBlock=some w.heap.size)->K (a.put o.dst v') w') :
 if Region.wanted o (yielded ops a.tmps)=true then Oper.wp P o a w K Q else E:=by
 have hw:Region.wanted o (yielded ops a.tmps)=true:=by simp[Region.wanted,hgd]
 rw[Aij hw];obtain⟨v',w',hr,h2,h3,-,h5⟩:=run_append_own_at (P:=P) w base t o.type e i z size bytes ht hi hz hsize hby hzs hsz v n xs hown ad m c news hl hnews h1 h63 hbytes hbase;unfold Oper.wp execOp;simp only[ho,resolve,invoke,builtin,Akp,Sem.run_pure,Ame,Amb,Ak4,Ald,hs,hx,hr]
 exact h v' w' h2 h3 h5
theorem A52:(Vp.prog.info? 52).map (fun i=>(i.zero,i.size,i.bytes))=some (some (.agg #[.complex .f32 0 0,.int .i64 0,.int .i64 0,.slice none 0 0,.slice none 0 0,.string ⟨#[]⟩,.int .i64 0]),7,96):=by kernel_rfl
end
section
open Go.RowKit Go.Sort
attribute [local go_sem ↓] Go.wp_at_zero Go.wp_at_succ
structure X6 (w0:World)(hb:Nat)(L:List Ad)(v:Value)(W:World):Prop where
 box:A8 w0 hb #[v,.func (.func 34) #[] #[]] 82 W
 row:W.ownsRow w0.heap.size 52 7 v L.length (Ao L)
 low:w0.heap.size<=hb
theorem X6.step {w0:World}{hb:Nat}{L:List Ad}{v:Value}{W W':World}(h:X6 w0 hb L v W)(k:Below W.heap.size W W'):X6 w0 hb L v W':=⟨h.box.step k,Ab h.row k,h.low⟩
theorem X6.ne {w0:World}{hb:Nat}{L:List Ad}{v:Value}{W:World}(h:X6 w0 hb L v W):v.ownBlock≠some hb:=Af h.row h.box.blk (by decide)
abbrev hpS (hb:Nat)(v:Value):Nat->Prop:=fun k=>k=hb\/v.ownBlock=some k
def Kb (w:World)(v v':Value):Prop:=v'.ownBlock=v.ownBlock\/∃g,v'.ownBlock=some g/\w.heap.size<=g
theorem Rg {P:Program}{t x:TypeId}{fs:Array Field}(hu:P.underlying t=some (.struct fs))(v:Value)(w:World):Sem.run P (Instr.typeAssert (.iface t v) x t false) w=.ok v w:=by
 unfold Instr.typeAssert;dsimp only;rw[Akp,Ako hu];simp
theorem Aco (w0:World)(hb:Nat)(L:List Ad)(v:Value)(p:Ad)(hL:L.length<=1000)(w:World)(H:X6 w0 hb L v w) :
 Calls Vp.prog 166 #[.pointer (some ⟨hb,0,none⟩),.iface 52 (.agg (Ag p).toArray)] w fun e w'=>e=.returned (.tuple #[])/\∃v',X6 w0 hb (L++[p]) v' w'/\Fx (hpS hb v) w w'/\Kb w v v':=by
 obtain⟨iT,hiT,hzT0,hzT1,hzT2⟩:=Ajw A52;have e1:(Ag p).toArray=#[.complex .f32 p.t.cx p.t.cy,.int .i64 p.t.deep,.int .i64 p.t.size,.slice (some ⟨p.t.gs,0,none⟩) p.t.n p.t.cs,.slice (some ⟨p.t.gm,0,none⟩) p.t.n p.t.cm,.string p.path,.int .i64 p.opn]:=rfl;have c0:=H.box.cell 0 _ rfl;have f0:=H.box.frozen 0;have hlt:=H.box.lt;have HH:=Ai1 H;have HNE:=Ai1 H.ne;rw[e1];have mixed:Vp.prog.follows .mixedOrders=true:=by kernel_rfl
 have ta:=fun(v:Value) (w:World)=>Rg (P:=Vp.prog) (x:=20) (Vp.Di Tryz.underlying52) v w
 clear H
 go_enter Vp.func166,Tryz.ntmps166
 have HNW:Hid (∀j u,(Ag p)[j]?=some u ->((w.alloc (.cells (Ag p).toArray 52)).drew).cell? ((⟨w.heap.size,0,none⟩:Addr).add j)=some u):=fun j u hj=>by
  have X:=(A8.new w (Ag p).toArray 52).step ((Aq.refl _).drew.below _);rw[L9,Ak1]
  exact X.cell j u (by rw[<-Ajv];exact hj)
 have HOW:=Ai1 (Ab HH.out.row (((Aik w.heap.size w).alloc (Ai3 _) (.cells (Ag p).toArray 52)).drew));have hbs:w0.heap.size <=((w.alloc (.cells (Ag p).toArray 52)).drew).heap.size:=by have:=HH.out.box.old.size;simp;omega
 have hml:L.length+1<=maxLen:=by unfold maxLen;omega
 have HCW:Hid (Fx (hpS hb v) w ((w.alloc (.cells (Ag p).toArray 52)).drew)):=Fx.Aw (((Aik w.heap.size w).alloc (Ai3 _) (.cells (Ag p).toArray 52)).drew);have HBX:=Ai1 ((HH.out.box.alloc (.cells (Ag p).toArray 52)).step ((Aq.refl _).drew.below _));clear c0 f0;have c0:=HH.out.box.cell 0 _ rfl
 go_region_law (refine P6 _ (by rfl) _ _ _ (by rfl) w0.heap.size 52 iT _ 7 96 (Vp.Di Tryz.underlying48) hiT hzT0 hzT1 hzT2 rfl (by omega) v L.length (Ao L) (by rfl) HOW.out ⟨w.heap.size,0,none⟩ 1 1 (Ag p) (by rfl) rfl HNW.out (Iz p) hml (by omega) hbs ?_
                intro v' w6 hown hgrow hmv;have B6:=HBX.out.grown hgrow HNE.out (fun k hk=>(HH.out.row.lt k hk).1)
                have HB6:=Ai1 B6;have k0:=B6.cell 0 _ rfl;have g0:=B6.frozen 0;obtain⟨g6,c6,rfl,-,-⟩:=ownsRow_form hown (by omega)
                have HO6:=Ai1 hown;have HC6:=Ai1 (HCW.out.trans (Fx.Np hgrow (fun k hk=>.inr hk)))
                have HM6:Hid (Kb w v (.slice (some ⟨g6,0,none⟩) (L.length+1) c6)):=hmv.imp id fun h=>⟨_,h,by simp⟩
                clear hown hgrow hmv B6)
 all_goals
  go_wp2
  go_end0
  refine⟨rfl,_,⟨HB6.out.set HH.out.low 0 (.slice (some ⟨g6,0,none⟩) (L.length+1) c6),?_,HH.out.low⟩,HC6.out.set (.inl rfl) 0 _,HM6.out⟩
  rw[Aje,Pg]
  exact A6 HO6.out HB6.out.blk (by decide) _
end
section
open Go.RowKit Go.Sort
attribute [local go_sem ↓] Go.wp_at_zero Go.wp_at_succ
attribute [local go_sem] A7 A5
theorem Af3 (w0:World)(hb m:Nat)(L:List Ad)(v:Value)(p:Ad)(hL:L.length=m+1)(hm:m<=1000)(hp:L[m]?=some p)(w:World)(H:X6 w0 hb L v w) :
 Calls Vp.prog 165 #[.pointer (some ⟨hb,0,none⟩)] w fun e w'=>e=.returned (.iface 52 (.agg (Ag p).toArray))/\∃v',X6 w0 hb (L.take m) v' w'/\Fx (fun k=>k=hb) w w'/\v'.ownBlock=v.ownBlock:=by
 have hrow:=H.row;rw[hL]at hrow;obtain⟨g,cap,rfl,-,hcap⟩:=ownsRow_form hrow (by omega)
 obtain⟨RW,hBg,hcm⟩:=Gi (d:=L.toArray) (by simpa using hrow) (by simpa using hL)
 have hpp:L.toArray[m]! = p:=by
  rw[Aks L.toArray m (by simp;omega)]
  simpa [Aig (show m<L.length by omega)]using hp
 have hgh:g≠hb:=fun e=>H.ne (by rw[e];rfl)
 obtain⟨a0,a1,a2,a3,a4,a5,a6⟩:=RW.Cv (k:=m) (by simp;omega) hpp
 have c0:=H.box.cell 0 _ rfl;have HRW:=Ai1 RW;have HBX:=Ai1 H.box;have HLOW:=Ai1 H.low;have HNE:=Ai1 hgh;have e1:(Ag p).toArray=#[.complex .f32 p.t.cx p.t.cy,.int .i64 p.t.deep,.int .i64 p.t.size,.slice (some ⟨p.t.gs,0,none⟩) p.t.n p.t.cs,.slice (some ⟨p.t.gm,0,none⟩) p.t.n p.t.cm,.string p.path,.int .i64 p.opn]:=rfl;rw[e1];have wr1:IntKind.i64.wrap ((m:Int)+1-1)=(m:Int):=by rw[Int.add_sub_cancel];exact Ajh _ (by omega)
 have i1:(m:Int) <(m:Int)+1:=by omega
 have i0:(0:Int)<=m:=by omega
 have i2:(m:Int)<=cap:=by omega
 clear H RW hrow
 go_enter Vp.func165,Tryz.ntmps165
 go_upto_region 3 with fail
 have X:=(A8.new w #[.complex .f32 p.t.cx p.t.cy,.int .i64 p.t.deep,.int .i64 p.t.size,.slice (some ⟨p.t.gs,0,none⟩) p.t.n p.t.cs,.slice (some ⟨p.t.gm,0,none⟩) p.t.n p.t.cm,.string p.path,.int .i64 p.opn] 52);have HX:=Ai1 X;have B2:=HBX.out.alloc (.cells #[.complex .f32 p.t.cx p.t.cy,.int .i64 p.t.deep,.int .i64 p.t.size,.slice (some ⟨p.t.gs,0,none⟩) p.t.n p.t.cs,.slice (some ⟨p.t.gm,0,none⟩) p.t.n p.t.cm,.string p.path,.int .i64 p.opn] 52);have HB2:=Ai1 B2;have HR2:=Ai1 (HRW.out.step X.old);have hbl:=HBX.out.lt;clear a0 a1 a2 a3 a4 a5 a6 c0;have c0:=B2.cell 0 _ rfl;have g0:=B2.frozen 0;have x0:=X.cell 0 _ rfl;have x1:=X.cell 1 _ rfl;have x2:=X.cell 2 _ rfl;have x3:=X.cell 3 _ rfl;have x4:=X.cell 4 _ rfl;have x5:=X.cell 5 _ rfl;have x6:=X.cell 6 _ rfl;clear X B2;generalize w.alloc (.cells #[.complex .f32 p.t.cx p.t.cy,.int .i64 p.t.deep,.int .i64 p.t.size,.slice (some ⟨p.t.gs,0,none⟩) p.t.n p.t.cs,.slice (some ⟨p.t.gm,0,none⟩) p.t.n p.t.cm,.string p.path,.int .i64 p.opn] 52)=wa at *
 go_wp2
 go_ret
 refine⟨rfl,.slice (some ⟨g,0,none⟩) m cap,⟨HB2.out.set HLOW.out 0 _,?_,HLOW.out⟩,(Fx.Aw (S:=fun k=>k=hb) HX.out.old).set (b:=hb) rfl 0 _,rfl⟩
 have hl:(L.take m).length=m:=by rw[Akf,hL];omega
 rw[hl];have:=Ig HR2.out hBg hcm m (by simp;omega)
 exact A6 (by simpa using this) HB2.out.blk (by decide) _
end
section
open Go.RowKit Go.Sort
attribute [local go_sem ↓] Go.wp_at_zero Go.wp_at_succ
theorem Fx.only {S:Nat->Prop}{u v w:World}{g:Nat}(h:Fx S u v)(k:By g v w)(hg:S g\/u.heap.size<=g):Fx S u w :=
 ⟨k.os.trans h.os,k.tape.trans h.tape,k.output.trans h.output,Ai5 h.size k.size,fun i hi hn=>(k.block i (Ai9 hi h.size) (fun e=>by
  subst e
  rcases hg with h|h
  ·exact hn h
  ·omega)).trans (h.block i hi hn)⟩
theorem Xf {α:Type}[Inhabited α](L:List α)(k:Nat)(hk:k<L.length):L.toArray[k]! = L[k]:=by
 rw[Aks L.toArray k (by simpa using hk)]
 simp
theorem Lg {α:Type}(d:Array α):(d.extract 0 d.size).toList=d.toList:=by simp
theorem Adb (L:List Ad)(p:Ad)(h:Jb E0 L.length L.toArray):(Ot E0 (L.length+1) (L++[p]).toArray L.length).toList.Perm (L++[p])/\Jb E0 (L.length+1) (Ot E0 (L.length+1) (L++[p]).toArray L.length):=by
 have e:∀k,k<L.length ->(L++[p]).toArray[k]! = L.toArray[k]!:=fun k hk=>by
  rw[Xf _ k (by simp;omega),Xf _ k hk,List.getElem_append_left hk]
 have h1:=Aeh Afl (L.length+1) (L++[p]).toArray L.length (L.length+1) (by omega) (by simp) (by omega) (fun k hk hkn hne=>by
  rw[e k (by omega),e _ (by omega)]
  exact h k hk (by omega)) (fun k hk hkn he h0=>by omega)
 refine⟨?_,h1.2⟩
 have h2:=h1.1.2.2;have hs:=h1.1.1;have e1:(L++[p]).toArray.size=L.length+1:=by simp
 rw[show(Ot E0 (L.length+1) (L++[p]).toArray L.length).extract 0 (L.length+1)=(Ot E0 (L.length+1) (L++[p]).toArray L.length).extract 0 (Ot E0 (L.length+1) (L++[p]).toArray L.length).size by rw[hs,e1],Lg,<-e1,Lg]at h2
 rw[e1]at h2
 exact h2
theorem A6i (m:Nat)(L:List Ad)(hL:L.length=m+1)(h:Jb E0 (m+1) L.toArray)(d1:Array Ad)(hd:Db E0 m (m+1) (swp L.toArray 0 m) 0=d1) :
 (d1[m]! :: d1.toList.take m).Perm L /\(∀q∈L,E0 q d1[m]! = false)/\Jb E0 m (d1.toList.take m).toArray/\d1.size=m+1:=by
 have hsz:(swp L.toArray 0 m).size=m+1:=by rw[swp_size];simpa using hL
 have hd1:d1.size=m+1:=by rw[<-hd,A3u,hsz]
 have g:=swp_get L.toArray (i:=0) (j:=m) (by simp;omega) (by simp;omega)
 have hp1:PermIn 0 (m+1) L.toArray (swp L.toArray 0 m):=swp_permIn _ _ _ _ _ (by omega) (by omega) (by omega) (by omega) (by simp;omega)
 have key:PermIn 0 m (swp L.toArray 0 m) d1/\Jb E0 m d1:=by
  rcases Ajr m with rfl|hm
  ·have:d1=swp L.toArray 0 0:=by rw[<-hd,Jm E0 0 _ 0 (.inl (by omega))]
   rw[this]
   exact⟨permIn_refl _ _ _,fun k hk hk2=>by omega⟩
  ·rw[<-hd]
   refine A99 Afl (m+1) (swp L.toArray 0 m) 0 m hm (by omega) (by omega) (fun k hk hkn hne=>?_) (fun k hk hkn he h0=>by omega)
   rw[g,g,Aid (by omega),Aid (by omega),Aid (by omega),Aid (by omega)]
   exact h k hk (by omega)
 have hlast:d1[m]! = L.toArray[0]!:=by
  rw[key.1.2.1 m (.inr (Ai3 _)),g,Aij rfl]
 have hall:PermIn 0 (m+1) L.toArray d1:=permIn_trans _ _ _ _ _ hp1 (permIn_mono _ _ 0 m 0 (m+1) (by omega) (by omega) (by omega) key.1)
 refine⟨?_,fun q hq=>?_,fun k hk hkm=>?_,hd1⟩
 ·have h2:=hall.2.2;have e1:L.toArray.size=m+1:=by simpa using hL
  rw[show d1.extract 0 (m+1)=d1.extract 0 d1.size by rw[hd1],Lg,<-e1,Lg]at h2
  have e2:d1.toList=d1.toList.take m++[d1[m]!]:=by
   have h3:d1.toList.drop m=[d1[m]!]:=by
    rw[List.drop_eq_getElem_cons (by simpa using (by omega:m<d1.size)),List.drop_of_length_le (by simp;omega),Aks d1 m (by omega)]
    simp
   rw[<-h3,An2]
  refine List.Perm.trans ?_ h2
  conv=>rhs;rw[e2]
  exact(List.perm_append_singleton _ _).symm
 ·rw[hlast];obtain⟨k,hk,rfl⟩:=Ane hq;have:=Jb.root Afl h k (by omega)
  rwa [Xf _ k hk]at this
 ·have e:∀j,j<m ->(d1.toList.take m).toArray[j]! = d1[j]!:=fun j hj=>by
   rw[Xf _ j (by simp;omega),Aks d1 j (by omega)]
   simp
  rw[e k hkm,e _ (by omega)]
  exact key.2 k hk hkm
theorem X6.hps {w0:World}{hb g n cap:Nat}{L:List Ad}{W:World}(h:X6 w0 hb L (.slice (some ⟨g,0,none⟩) n cap) W):HpS hb g n cap W:=⟨h.box.cell 0 _ rfl,h.box.cell 1 _ rfl⟩
theorem A0b (w0:World)(hb:Nat)(L:List Ad)(v:Value)(p:Ad)(hL:L.length<=500)(hH:Jb E0 L.length L.toArray)(w:World)(H:X6 w0 hb L v w) :
 Calls Vp.prog 36 #[.iface 79 (.pointer (some ⟨hb,0,none⟩)),.iface 52 (.agg (Ag p).toArray)] w fun e w' =>
  e=.returned (.tuple #[])/\∃L' v',L'.Perm (L++[p])/\Jb E0 L'.length L'.toArray/\X6 w0 hb L' v' w'/\Fx (hpS hb v) w w'/\Kb w v v':=by
 have CP:=Ai1 (Aco w0 hb L v p (by omega) w H)
 have HL:=Ai1 H.low;have HV:=Ai1 H.row;have mP:=A9s (.pointer (some ⟨hb,0,none⟩));have mN:=A57 (.pointer (some ⟨hb,0,none⟩));have HU:=Ai1 (Adb L p hH);clear H hH;generalize (Ag p).toArray=cp at *
 go_enter Vp.func36,Tryz.ntmps36
 go_wp2_with fail
 refine CP.out.mono ?_
 rintro e w1 ⟨rfl,v1,H1,hc1,hm1⟩;have hrow:=H1.row;rw[show(L++[p]).length=L.length+1 by simp]at hrow
 obtain⟨g,cap,rfl,-,-⟩:=ownsRow_form hrow (by omega)
 have hgh:hb≠g:=fun e=>H1.ne (by rw[<-e];rfl)
 obtain⟨RW,hBg,hcm⟩:=Gi (d:=(L++[p]).toArray) (by simpa using hrow) (by simp)
 have HC1:=Ai1 hc1;have HM1:=Ai1 hm1;have HI1:=Ai1 H1;have CN:=Ai1 (A9p hb g (L.length+1) cap w1 H1.hps);clear CP hrow H1 hc1 hm1
 go_wp2_with fail
 refine CN.out.mono ?_
 rintro e w2 ⟨rfl,hb2⟩;have HI2:=Ai1 (HI1.out.step hb2);have HC2:=Ai1 (HC1.out.trans (Fx.Aw hb2));have CU:=Ai1 (Agz hb g (L.length+1) cap L.length (L++[p]).toArray (by simp) (by omega) (by omega) w2 hgh HI2.out.hps (RW.step hb2))
 have wr1:IntKind.i64.wrap (((L.length+1:Nat):Int)-1)=(L.length:Int):=by
  rw[show((L.length+1:Nat):Int)-1=(L.length:Int) by omega]
  exact Ajh _ (by omega)
 clear CN hb2 RW;generalize hn1:L.length+1=n1 at *
 go_wp2_with fail
 refine CU.out.mono ?_
 rintro e w3 ⟨rfl,ho3,hr3⟩;have HO3:=Ai1 ho3;have HR3:=Ai1 hr3;clear ho3 hr3 CU
 go_wp2
 go_end0
 obtain⟨hp,hk⟩:=HU.out;have hsz:(Ot E0 n1 (L++[p]).toArray L.length).size=n1:=by rw[Aan,<-hn1];simp
 have hg:hpS hb v g\/w.heap.size<=g:=by
  rcases HM1.out with h |⟨g',h,h2⟩
  ·exact .inl (.inr h.symm)
  ·injection h with h
   have h:g=g':=h
   exact .inr (by rw[h];exact h2)
 have hll:(Ot E0 n1 (L++[p]).toArray L.length).toList.length=n1:=by rw[Ajn,hsz]
 refine⟨rfl,_,.slice (some ⟨g,0,none⟩) n1 cap,hp,?_,⟨?_,?_,HL.out⟩,HC2.out.only HO3.out hg,HM1.out⟩
 ·rw[hll]
  simpa using hk
 ·exact(Fx.A5b (S:=fun k=>k=g) HO3.out rfl).box HI2.out.box (fun e=>hgh e) (fun k hk=>by rw[hk];exact hBg)
 ·rw[hll];have:=Ig HR3.out hBg hcm n1 (by omega)
  rwa [Ajz (by omega)]at this
theorem A31 (w0:World)(hb m:Nat)(L:List Ad)(v:Value)(hL:L.length=m+1)(hm:m<=500)(hH:Jb E0 L.length L.toArray)(w:World)(H:X6 w0 hb L v w) :
 Calls Vp.prog 39 #[.iface 79 (.pointer (some ⟨hb,0,none⟩))] w fun e w' =>
  ∃p L' v',e=.returned (.iface 52 (.agg (Ag p).toArray)) /\(p :: L').Perm L /\(∀q∈L,E0 q p=false)/\Jb E0 L'.length L'.toArray/\X6 w0 hb L' v' w'/\Fx (hpS hb v) w w'/\v'.ownBlock=v.ownBlock:=by
 have hrow:=H.row;rw[hL]at hrow;obtain⟨g,cap,rfl,-,-⟩:=ownsRow_form hrow (by omega)
 have hgh:hb≠g:=fun e=>H.ne (by rw[<-e];rfl)
 obtain⟨RW,hBg,hcm⟩:=Gi (d:=L.toArray) (by simpa using hrow) (by simpa using hL)
 have HI:=Ai1 H;have mN:=A57 (.pointer (some ⟨hb,0,none⟩));have mS:=Sb (.pointer (some ⟨hb,0,none⟩));have mP:=Acf (.pointer (some ⟨hb,0,none⟩));have CN:=Ai1 (A9p hb g (m+1) cap w H.hps);have HRW:=Ai1 RW;have HLL:=Ai1 hL;rw[hL]at hH;have HH:=Ai1 hH
 have wr1:IntKind.i64.wrap (((m+1:Nat):Int)-1)=(m:Int):=by
  rw[show((m+1:Nat):Int)-1=(m:Int) by omega]
  exact Ajh _ (by omega)
 clear H hrow RW hL hH
 go_enter Vp.func39,Tryz.ntmps39
 go_wp2_with fail
 refine CN.out.mono ?_
 rintro e w1 ⟨rfl,hb1⟩;have HI1:=Ai1 (HI.out.step hb1);have HC1:Hid (Fx (fun k=>k=g) w w1):=Fx.Aw hb1
 have hsz:L.toArray.size=m+1:=by simpa using HLL.out
 have CS:=Ai1 (Qz hb g (m+1) cap 0 m L.toArray hsz (by omega) (by omega) w1 HI1.out.hps (HRW.out.step hb1))
 clear hb1 CN
 go_wp2_with fail
 refine CS.out.mono ?_
 rintro e w2 ⟨rfl,ho2,hr2⟩;have HC2:=Ai1 (HC1.out.only ho2 (.inl rfl));have HS2:=Ai1 (HI1.out.hps.only ho2 hgh);have CD:=Ai1 (Abt hb g (m+1) cap 0 m (swp L.toArray 0 m) (by rw[swp_size];exact hsz) (by omega) (by omega) (by omega) w2 hgh HS2.out hr2)
 clear ho2 hr2 CS
 go_wp2_with fail
 refine CD.out.mono ?_
 rintro e w3 ⟨⟨bz,rfl⟩,ho3,hr3⟩;have HC3:=Ai1 (HC2.out.only ho3 (.inl rfl));obtain⟨d1,hd1⟩:∃d1,Db E0 m (m+1) (swp L.toArray 0 m) 0=d1:=⟨_,rfl⟩;rw[hd1]at hr3;obtain⟨q1,q2,q3,q4⟩:=A6i m L HLL.out HH.out d1 hd1
 have HI3:Hid (X6 w0 hb d1.toList (.slice (some ⟨g,0,none⟩) (m+1) cap) w3):=by
  have hll:d1.toList.length=m+1:=by rw[Ajn,q4]
  refine⟨HC3.out.box HI.out.box (fun e=>hgh e) (fun k hk=>by rw[hk];exact hBg),?_,HI.out.low⟩
  rw[hll];have:=Ig hr3 hBg hcm (m+1) (by omega)
  rwa [Ajz (by omega)]at this
 have CP:=Ai1 (Af3 w0 hb m d1.toList (.slice (some ⟨g,0,none⟩) (m+1) cap) d1[m]! (by rw[Ajn,q4]) (by omega) (by rw[Ajv,Ai8 (by omega),Aks d1 m (by omega)]) w3 HI3.out)
 have HQ:=Ai1 (And.intro q1 (And.intro q2 (And.intro q3 q4)));clear ho3 hr3 CD q1 q2 q3 q4 hd1;generalize d1[m]! = p at *;have HCP:Hid (∃cp,(Ag p).toArray=cp):=⟨_,rfl⟩;obtain⟨cp,hcp⟩:=HCP.out;rw[hcp]at CP
 go_wp2_with fail
 refine CP.out.mono ?_
 rintro e w4 ⟨rfl,v4,h4,hc4,hv4⟩;have H4:=Ai1 h4;have HC4:=Ai1 hc4;have HV4:=Ai1 hv4;have HCQ:=Ai1 hcp;clear h4 hc4 hv4 CP hcp
 go_wp2
 go_ret
 obtain⟨q1,q2,q3,q4⟩:=HQ.out
 refine⟨p,_,v4,by rw[HCQ.out];rfl,q1,q2,?_,H4.out,(HC3.out.mono fun k _ hk=>.inr (by rw[hk];rfl)).trans (HC4.out.mono fun k _ hk=>.inl hk),HV4.out⟩
 rw[show(d1.toList.take m).length=m by rw[Akf,Ajn,q4];omega]
 exact q3
end
end Go.Proofs.YtlfleicchbgcmaaGreat
