import Derived.Test.YtjaehldnlamgkaaGreatDoorXe19
import Derived.Lib.Split
import Derived.Defers
import Derived.Recover
import Derived.Laws.EntriesVeiled
import Derived.Laws.Bits64b
import Derived.Lib.TrailingZeros
import Derived.Shelf.Spec.TrailingZeros
import Derived.Test.YtjaehldnlamgkaaGreatDoorXe0
import Derived.Test.YtjaehldnlamgkaaGreatDoorXeK
set_option linter.all false
set_option maxHeartbeats 16000000
set_option maxRecDepth 100000
namespace Go.Proofs.YtjaehldnlamgkaaGreatDoor
section
open Go.RowKit
def Qt:List UInt8->Int
 | l=>l.foldl (fun a c=>10*a +((c.toNat:Int)-48)) 0
theorem P6 (l:List UInt8)(c:UInt8):Qt (l++[c])=10*Qt l +((c.toNat:Int)-48):=by simp[Qt]
def Ajk (l:List UInt8):Prop:=∀c∈l,48<=c.toNat/\c.toNat<=57
theorem A6u:∀(n:Nat) (l:List UInt8),l.length=n->Ajk l->0<=Qt l/\Qt l+1<=10^n
 | 0,l,h,_=>by
   rw[List.length_eq_zero_iff.1 h]
   decide
 | n+1,l,h,hd=>by
   obtain⟨m,c,rfl⟩:∃m c,l=m++[c]:=⟨l.dropLast,l.getLast (by intro e;rw[e]at h;simp at h),(List.dropLast_concat_getLast _).symm⟩
   have ih:=A6u n m (by simpa using h) (fun x hx=>hd x (by simp[hx]))
   have hc:=hd c (by simp)
   rw[P6,Int.pow_succ]
   omega
theorem Kf:∀(u:Nat),Ajk (Lib.decDigits u)/\Qt (Lib.decDigits u)=u:=by
 intro u
 induction u using Nat.strongRecOn with
 | ind u ih =>
   rw[Lib.decDigits]
   split
   ·refine⟨fun c hc=>?_,?_⟩
    ·simp only[An7,An6,Ap5]at hc;subst hc;simp[UInt8.toNat_ofNat']
     omega
    ·simp[Qt,UInt8.toNat_ofNat']
     omega
   ·obtain⟨h1,h2⟩:=ih (u / 10) (by omega)
    refine⟨fun c hc=>?_,?_⟩
    ·rcases Aq9.1 hc with hc|hc
     ·exact h1 c hc
     ·simp only[An7,An6,Ap5]at hc;subst hc;simp[UInt8.toNat_ofNat']
      omega
    ·rw[P6,h2];simp[UInt8.toNat_ofNat']
     omega
theorem Adu (u:Nat)(h:u<=9999):1 <=(Lib.decDigits u).length /\(Lib.decDigits u).length<=4:=by
 rw[Lib.decDigits_length];have n1:∀v,v<10->Lib.nDigits v=1:=fun v hv=>by rw[Lib.nDigits,dif_pos hv]
 have n2:∀v,¬v<10->Lib.nDigits v=Lib.nDigits (v / 10)+1:=fun v hv=>by rw[Lib.nDigits,dif_neg hv]
 by_cases h1:u<10
 ·rw[n1 u h1];omega
 rw[n2 u h1]
 by_cases h2:u / 10<10
 ·rw[n1 _ h2];omega
 rw[n2 _ h2]
 by_cases h3:u / 10 / 10<10
 ·rw[n1 _ h3];omega
 rw[n2 _ h3,n1 _ (by omega)]
 omega
theorem Aad (n:Int):Lib.trimPrefix (Lib.itoa n) [45]=Lib.decDigits n.natAbs/\Lib.hasPrefix (Lib.itoa n) [45]=decide (n<0):=by
 unfold Lib.trimPrefix Lib.hasPrefix Lib.itoa
 by_cases h:n<0
 ·rw[Amo h];simp[h]
 ·rw[Amd h];have hd:=(Kf n.toNat).1
  have hl:1 <=(Lib.decDigits n.toNat).length:=by
   rw[Lib.decDigits_length,Lib.nDigits];split<;>omega
  cases hx:Lib.decDigits n.toNat with
  | nil=>rw[hx]at hl;simp at hl
  | cons c l =>
    have h45:¬(45:UInt8)=c:=by
     rintro rfl;have:=hd 45 (by rw[hx];simp)
     have e:(45:UInt8).toNat=45:=rfl
     omega
    have e2:n.natAbs=n.toNat:=by omega
    rw[e2,hx];simp[h,h45,List.isPrefixOf]
theorem V4 (n:Int)(h0:-9999<=n)(h1:n<=9999)(w:World):Calls Vp.prog 121 #[.string (Fj n)] w fun e w'=>e=.returned (.int .i64 n)/\w'=w:=by
 obtain⟨e1,e2⟩:=Aad n;obtain⟨d1,d2⟩:=Kf n.natAbs;obtain⟨l1,l2⟩:=Adu n.natAbs (by omega)
 have HD:∀(b:Bool) w,b=true->Calls Vp.prog 120 #[.bool b] w fun e w'=>e=.returned (.tuple #[])/\w'=w:=fun b w h=>by rw[h];exact Kj w
 have HC:∀w,Calls Vp.prog 154 #[.string (Fj n),.string ⟨#[45]⟩] w fun e w'=>e=.returned (.tuple #[.string ⟨(Lib.decDigits n.natAbs).toArray⟩,.bool (decide (n<0))])/\w'=w:=fun w=>by
  have h:=Vsh.strings_CutPrefix (Fj n) ⟨#[45]⟩ w;rw[Mc,show(⟨#[45]⟩:ByteArray).data.toList=[45]from rfl,e1,e2]at h
  exact h
 have hfin:(if n<0 then -(n.natAbs:Int)else(n.natAbs:Int))=n:=by split<;>omega
 obtain⟨ds,hds⟩:∃ds,Lib.decDigits n.natAbs=ds:=⟨_,rfl⟩;rw[hds]at d1 d2 l1 l2 HC;obtain⟨u,hu⟩:∃u,n.natAbs=u:=⟨_,rfl⟩;have hu2:u<=9999:=by omega
 rw[hu]at d2 hfin;obtain⟨s,hs⟩:∃s,Fj n=s:=⟨_,rfl⟩;rw[hs]at HC ⊢;clear e1 e2 hs;obtain⟨d,hd⟩:∃d:ByteArray,(⟨ds.toArray⟩:ByteArray)=d:=⟨_,rfl⟩;rw[hd]at HC;have hsz:d.size=ds.length:=by rw[<-hd];simp[ByteArray.size]
 have hat:∀k (h:k<d.size),∃c,ds[k]?=some c /\(d[k]'h)=c:=fun k h=>by
  subst hd
  refine⟨_,Amw (by rw[hsz]at h;exact h),?_⟩
  rfl
 have HCC:=Aly HC;have HDD:=Aly HD;have HAT:=Aly hat;have HDS:=Aly d1;have HV:=Aly d2;have HF:=Aly hfin;have HSZ:=Aly hsz;rw[<-hsz]at l1 l2;clear HC HD hat d1 d2 hfin hds hu hd
 go_enter Vp.func121,Tryz.ntmps121
 go_wp2_with fail
 refine(HCC.out _).mono ?_
 rintro e w1 ⟨rfl,hw⟩;rw[hw];clear hw
 go_wp2_with (go_at_call 120;refine(HDD.out _ _ (by first|rfl |(simp;omega)|skip)).mono ?_;rintro e w' ⟨rfl,hw⟩;rw[hw];clear hw)
 go_loopw [5,23] (fun v i wr=>∃k:Nat,k<=d.size/\i=.int .i64 k/\v=.int .i64 (Qt (ds.take k))/\wr=w) (fun _ i _=>d.size-(intOf i).toNat)
 case atStart=>exact⟨0,Amu _,rfl,rfl,rfl⟩
 case round =>
  obtain⟨k,hk,rfl,rfl,rfl⟩:=hrel
  by_cases hkd:k<d.size
  ·obtain⟨c,hc1,hc2⟩:=HAT.out k hkd;have hcd:=HDS.out c (Aob hc1);have hbd:=A6u k (ds.take k) (by rw[List.length_take];omega) (fun x hx=>HDS.out x (List.mem_of_mem_take hx))
   have hbd2:Qt (ds.take k)<=9999:=by
    have:(10:Int)^k<=10^3:=by
     rcases(by omega:k=0\/k=1\/k=2\/k=3)with rfl|rfl|rfl|rfl<;>decide
    omega
   have hnx:Qt (ds.take (k+1))=10*Qt (ds.take k) +((c.toNat:Int)-48):=by
    rw[List.take_add_one,hc1]
    exact P6 _ _
   generalize Qt (ds.take k)=v at *;obtain⟨b,hb⟩:∃b,c.toNat=b:=⟨_,rfl⟩;rw[hb]at hcd hnx
   go_wp2_with (go_at_call 120;refine(HDD.out _ _ (by first|rfl |(simp;omega)|skip)).mono ?_;rintro e w' ⟨rfl,hw⟩;rw[hw];clear hw)
   exact⟨⟨k+1,by omega,by go_num,by rw[hnx],trivial⟩,by simp[intOf];omega⟩
  ·have hke:k=d.size:=by omega
   subst hke;rw[Aom (by rw[HSZ.out];exact Am0 _),HV.out]
   have hF:=HF.out
   by_cases hneg:n<0
   ·rw[Amo hneg]at hF
    go_wp2
    go_ret
    exact⟨by rw[<-hF];rfl,rfl⟩
   ·rw[Amd hneg]at hF
    go_wp2
    go_ret
    exact⟨by rw[<-hF];rfl,rfl⟩
end
section
open Go.RowKit
def Aib (p:List UInt8):Value:=.string ⟨p.toArray⟩
def E1:List UInt8->List (List UInt8)
 | []=>[[]]
 | c :: r=>if c=32 then[] :: E1 r else(c ::(E1 r).headD []) ::(E1 r).tail
theorem Mo:∀(p r:List UInt8),(∀c,c∈p->c≠32)->E1 (p++32 :: r)=p :: E1 r
 | [],r,_=>by simp[E1]
 | c :: p,r,h=>by
   have hc:c≠32:=h c (by simp)
   have ih:=Mo p r (fun d hd=>h d (by simp[hd]))
   show E1 (c ::(p++32 :: r))=_
   rw[E1,Amd hc,ih]
   rfl
theorem Iv:∀(p:List UInt8),(∀c,c∈p->c≠32)->E1 p=[p]
 | [],_=>rfl
 | c :: p,h=>by
   have hc:c≠32:=h c (by simp)
   rw[E1,Amd hc,Iv p (fun d hd=>h d (by simp[hd]))]
   rfl
theorem Q8:∀(ps:List (List UInt8)) (p:List UInt8),(∀c,c∈p->c≠32) ->(∀q,q∈ps->∀c,c∈q->c≠32)->E1 (p ++(ps.map (fun q=>32 :: q)).flatten)=p :: ps
 | [],p,h,_=>by simpa using Iv p h
 | q :: ps,p,h,hs=>by
   rw[Apw,List.flatten_cons,An9,Mo p _ h,Q8 ps q (hs q (by simp)) (fun r hr=>hs r (by simp[hr]))]
theorem Yh (l:List UInt8)(j:Nat):Lib.occAt l [32] j=true↔l[j]?=some 32:=by
 unfold Lib.occAt;rw[<-List.head?_drop]
 cases h:l.drop j with
 | nil=>simp
 | cons a r =>
   simp only[List.isPrefixOf,Bool.and_true,List.head?_cons,Anf,Aqw]
   exact eq_comm
theorem Tx:∀(k:Nat) (l:List UInt8),l.count 32<=k->Lib.splitK [32] 0 k l=E1 l
 | 0,l,h=>by
   have hn:∀c,c∈l->c≠32:=fun c hc e=>by
    subst e;have:=List.count_pos_iff.2 hc
    omega
   rw[Iv l hn]
   rfl
 | k+1,l,h=>by
   unfold Lib.splitK
   rcases Lib.index_spec l [32]with⟨h1,h2⟩ |⟨i,h1,h2,h3,h4⟩
   ·rw[Amo (by rw[h1];rfl)]
    refine(Iv l fun c hc e=>?_).symm
    subst e;obtain⟨j,hj,hj2⟩:=List.getElem_of_mem hc;have:=h2 j (by omega)
    rw[(Yh l j).2 (by rw[Amw hj,hj2])]at this
    cases this
   ·have hi:=(Yh l i).1 h3;obtain⟨hil,hie⟩:=Aor.1 hi;have hne:¬(Lib.index l [32] == -1)=true:=by rw[h1];simp
    rw[Amd hne,h1,Anc,Nat.add_zero]
    have e:l=l.take i++32 :: l.drop (i+1):=by
     conv=>lhs;rw[<-List.take_append_drop i l,List.drop_eq_getElem_cons hil,hie]
    have hno:∀c,c∈l.take i->c≠32:=fun c hc e=>by
     subst e;obtain⟨j,hj,hj2⟩:=List.getElem_of_mem hc;rw[List.length_take]at hj;rw[List.getElem_take]at hj2;have:=h4 j (by omega)
     rw[(Yh l j).2 (by rw[Amw (by omega),hj2])]at this
     cases this
    have hcount:(l.drop (i+1)).count 32<=k:=by
     have:=congrArg (List.count 32) e;rw[List.count_append,List.count_cons_self]at this
     omega
    show l.take i :: Lib.splitK [32] 0 k (l.drop (i+[(32:UInt8)].length))=_
    rw[show i+[(32:UInt8)].length=i+1 from rfl,Tx k _ hcount]
    conv=>rhs;rw[e]
    rw[Mo _ _ hno]
theorem A9h (b:ByteArray):Value.string b=Aib b.data.toList:=by
 unfold Aib
 congr 1
theorem Tw (s:ByteArray):(Lib.splitB ⟨#[32]⟩ 0 (Lib.countB s ⟨#[32]⟩) s).map Value.string=(E1 s.data.toList).map Aib:=by
 have h:=Lib.splitB_data ⟨#[32]⟩ 0 (Lib.countB s ⟨#[32]⟩) s
 have hc:Lib.countB s ⟨#[32]⟩=s.data.toList.count 32:=by
  show Lib.count s.data.toList [32]=_
  exact Lib.count_one 32 _
 rw[hc]at h ⊢;have e:(Lib.splitB ⟨#[32]⟩ 0 (s.data.toList.count 32) s).map (·.data.toList)=E1 s.data.toList:=h.trans (Tx _ _ (Am0 _));rw[<-e,List.map_map]
 refine List.map_congr_left fun b _=>?_
 exact A9h b
theorem A05 (s:ByteArray):Lib.countB s ⟨#[32]⟩+1=(E1 s.data.toList).length:=by
 have h:=congrArg List.length (Tw s);rw[Aov,Aov,Lib.splitB_all ⟨#[32]⟩ (by decide) 0 _ s rfl]at h
 exact h
def Ae (ns:List Int):List UInt8:=Lib.join (ns.map Lib.itoa) [32]
theorem Wg (n:Int):∀c,c∈Lib.itoa n->c≠32:=by
 have key:∀u,∀c,c∈Lib.decDigits u->c≠32:=fun u c hc e=>by
  have:=(Kf u).1 c hc;subst e;have e2:(32:UInt8).toNat=32:=rfl
  omega
 unfold Lib.itoa
 split
 ·intro c hc
  rcases An7.1 hc with rfl|hc
  ·decide
  ·exact key _ c hc
 ·exact key _
theorem A4x (n:Int)(ns:List Int):E1 (Ae (n :: ns))=(n :: ns).map Lib.itoa:=by
 unfold Ae;rw[Apw,Lib.join_cons];unfold Lib.joinTail
 exact Q8 (ns.map Lib.itoa) (Lib.itoa n) (Wg n) (fun q hq=>by
  obtain⟨m,-,rfl⟩:=Anp.1 hq
  exact Wg m)
theorem Yw (ns:List Int)(hne:ns≠[])(w:World)(hs:(Ae ns).length<4294967281) :
 Calls Vp.prog 119 #[.string ⟨(Ae ns).toArray⟩,.string ⟨#[32]⟩] w fun e w'=>e=.returned (.slice (some ⟨w.heap.size,0,none⟩) ns.length ns.length)/\w'=w.alloc (.cells (ns.map fun n=>Value.string (Fj n)).toArray 9):=by
 obtain⟨n,r,rfl⟩:∃n r,ns=n :: r:=List.exists_cons_of_ne_nil hne;have h:=Ac8 ⟨(Ae (n :: r)).toArray⟩ 32 w (by simpa [ByteArray.size]using hs)
 have e:(⟨(Ae (n :: r)).toArray⟩:ByteArray).data.toList=Ae (n :: r):=by simp
 rw[Tw,A05,e,A4x,Aov,List.map_map]at h
 exact h
theorem Tj (ns:List Int)(hne:ns≠[])(h8:ns.length<=8)(hbd:∀x∈ns,-9999<=x/\x<=9999)(w:World)(hs:(Ae ns).length<4294967281) :
 Calls Vp.prog 72 #[.string ⟨(Ae ns).toArray⟩,.int .i64 ns.length] w fun e w'=>e=.returned (.slice (some ⟨w.heap.size+1,0,none⟩) ns.length ns.length)/\Below w.heap.size w w'/\w'.ownsRow w.heap.size 3 1 (.slice (some ⟨w.heap.size+1,0,none⟩) ns.length ns.length) ns.length (ns.map By):=by
 obtain⟨iI,hiI,hzI0,hzI1,hzI2⟩:=Ap2 Wf;obtain⟨N,hN⟩:∃N,ns.length=N:=⟨_,rfl⟩;have h1:1<=N:=by rw[<-hN];exact List.length_pos_iff.2 hne
 obtain⟨cI,hcI,hI⟩:=Dq (P:=Vp.prog) 41 3 iI _ (Vp.Bl Tryz.underlying41) hiI hzI0 N (by omega) (by omega)
 have HS:=Aly (Yw ns hne w hs);have HB:=Aly hbd;have HN:=Aly hN;have HDD:Hid (∀(b:Bool) w,b=true->Calls Vp.prog 120 #[.bool b] w fun e w'=>e=.returned (.tuple #[])/\w'=w):=fun b w h=>by rw[h];exact Kj w
 obtain⟨W0,hW0⟩:∃W0,W0=w.alloc (.cells (ns.map fun n=>Value.string (Fj n)).toArray 9):=⟨_,rfl⟩
 have HC:Hid (∀(j:Nat) (x:Int),ns[j]?=some x->W0.cell? ⟨w.heap.size,j,none⟩=some (.string (Fj x))):=fun j x hx=>by
  rw[hW0,World.cell?_alloc_new];simp[hx]
 obtain⟨g,hg⟩:∃g,w.heap.size+1=g:=⟨_,rfl⟩;have hz0:W0.heap.size=g:=by rw[hW0,<-hg];simp
 have HW0:Hid (Below w.heap.size w W0):=by rw[hW0];exact(Amc _ _).alloc (Am0 _) _
 rw[<-hW0,hN]at HS;rw[hN]at h8 ⊢;clear hN hbd hne hs hW0
 have H0:Hid ((W0.alloc (.cells cI 3)).ownsRow w.heap.size 3 1 (.slice (some ⟨g,0,none⟩) 0 N) 0 (([]:List Int).map By)):=by
  rw[<-hz0]
  exact⟨by simp,.inr ⟨W0.heap.size,N,cI,rfl,by omega,Aox W0 _,by simp,by unfold maxLen;omega,by rw[hcI,hzI1],by simp⟩⟩
 rw[hg]
 go_enter Vp.func72,Tryz.ntmps72
 go_wp2_with (first
  |(go_at_call 119;refine HS.out.mono ?_;rintro e w' ⟨rfl,hw⟩;rw[hw];clear hw)
  |(go_at_call 120;refine(HDD.out _ _ (by first|rfl |(simp;omega)|skip)).mono ?_;rintro e w' ⟨rfl,hw⟩;rw[hw];clear hw))
 clear hI HDD HS
 go_loopw [6,20] (fun v i wr=>∃k:Nat,k<=N/\i=.int .i64 k/\v=.slice (some ⟨g,0,none⟩) k N/\Hid (wr.ownsRow w.heap.size 3 1 v k ((ns.take k).map By))/\Hid (Below W0.heap.size W0 wr)) (fun _ i _=>N-(intOf i).toNat)
 case atStart=>exact⟨0,Amu _,rfl,rfl,H0,Aly ((Amc _ _).alloc (Am0 _) _)⟩
 case round =>
  obtain⟨k,hk,rfl,rfl,HO,HW⟩:=hrel;have hsz:=HW.out.size
  by_cases hkn:k<N
  ·obtain⟨x,hx⟩:∃x,ns[k]?=some x:=⟨ns[k]'(by rw[HN.out];exact hkn),Amw _⟩
   have hxc:wr.cell? ⟨w.heap.size,k,none⟩=some (.string (Fj x)):=by
    rw[HW.out.cell (p:=⟨w.heap.size,k,none⟩) (by show w.heap.size<_;omega)]
    exact HC.out k x hx
   have hxm:=HB.out x (Aob hx);have HR:=Aly (V4 x hxm.1 hxm.2);have HX:=Aly hx;clear hx hxm
   go_wp2_with (first
    |(go_at_call 121;refine(HR.out _).mono ?_;rintro e w' ⟨rfl,hw⟩;rw[hw];clear hw)
    |(at_builtin;refine G6 _ rfl _ _ _ rfl w.heap.size 3 iI 1 (Vp.Bl Tryz.underlying41) hiI hzI1 g k N _ rfl (HO.out.alloc _) ⟨wr.heap.size,0,none⟩ 1 1 [.int .i64 x] rfl rfl (cell_one_new _ _ _) (fun u hu=>by simp at hu;subst hu;rfl) (by omega) ?_;intro w3 hown hgrow))
   have HO3:Hid (w3.ownsRow w.heap.size 3 1 (.slice (some ⟨g,0,none⟩) (k+1) N) (k+1) ((ns.take (k+1)).map By)):=by
    show World.ownsRow _ _ _ _ _ _ _
    rw[List.take_add_one,HX.out]
    simpa [By]using hown
   have HW3:Hid (Below W0.heap.size W0 w3):=(HW.out.alloc HW.out.size _).grown hgrow (by simp;omega) (fun q hq=>by simp at hq;omega)
   clear hown hgrow
   go_wp2
   exact⟨⟨k+1,by omega,by go_num,rfl,HO3,HW3⟩,by simp[intOf];omega⟩
  ·have hke:k=N:=by omega
   subst hke;have hO:=HO.out;rw[Aom (by rw[HN.out];exact Am0 _)]at hO
   have HOF:=Aly hO;clear hO
   go_wp2
   go_ret
   exact⟨rfl,HW0.out.trans (HW.out.mono (by omega)),HOF.out⟩
end
section
open Go.RowKit
def A02:List (ByteArray×Int×Nat):=[(⟨#[97,116]⟩,3,106),(⟨#[109,111,115,116]⟩,1,107),(⟨#[119,104,101,114,101]⟩,0,108),(⟨#[101,115,99,97,112,101]⟩,0,109),(⟨#[101,120,97,99,116]⟩,0,110),(⟨#[115,116,97,116,101]⟩,0,111),(⟨#[116,105,108,101]⟩,2,112),(⟨#[103,111]⟩,1,113),(⟨#[109,97,114,107,115]⟩,0,114),(⟨#[112,105,99,116,117,114,101]⟩,0,115),(⟨#[115,117,109]⟩,0,116),(⟨#[112,108,97,110]⟩,1,117),(⟨#[97,110,103,108,101]⟩,2,118)]
def Aa4 (c:ByteArray×Int×Nat):List Value:=[.string c.1,.int .i64 c.2.1,.func (.func c.2.2) #[] #[]]
def Vr:Array Value:=(A02.map Aa4).flatten.toArray
theorem A03 (w:World):Calls Vp.prog 71 #[] w fun e w'=>e=.returned (.slice (some ⟨w.heap.size,0,none⟩) 13 13)/\w'=w.alloc (.cells Vr 121):=by
 go_enter Vp.func71,Tryz.ntmps71
 go_wp2
 go_ret
 exact⟨rfl,rfl⟩
theorem Pf (p:Addr)(w:World) :
 CallsD Vp.prog 70 #[.pointer (some p)] .returning w fun e u' w'=>e=.returned (.tuple #[])/\u'=.returning/\w'=w:=by
 refine callsD_of_wpS Vp.func70 rfl fun c₀ cs hu=>?_
 apply wpS_seq
 apply wpS_region
 simp[wpOpsS,go_sem,recoverD,hu,Tryz.ntmps70,Exit.thenS]
 refine wpS_of_wp ?_
 rw[show(#[Value.pointer (some p)] ++(Array.replicate 10 undef).setIfInBounds 3 Value.nilIface)=#[.pointer (some p),undef,undef,undef,.nilIface,undef,undef,undef,undef,undef,undef]from rfl];have hnil:∀w:World,(binOp .eql 20 .nilIface .nilIface).run Vp.prog w=.ok (.bool true) w:=fun _=>by kernel_rfl
 go_wp2
 simp[bodyPostS,results,Tryz.results70]
 cases c₀
 simp_all
theorem A7a (k:Nat)(c:ByteArray×Int×Nat)(h:A02[k]?=some c):Vr[k*3]?=some (.string c.1)/\Vr[k*3+1]?=some (.int .i64 c.2.1)/\Vr[k*3+2]?=some (.func (.func c.2.2) #[] #[]):=by
 have hk:k<13:=(Aor.1 h).1
 rcases(by omega:k=0\/k=1\/k=2\/k=3\/k=4\/k=5\/k=6\/k=7\/k=8\/k=9\/k=10\/k=11\/k=12)with rfl|rfl|rfl|rfl|rfl|rfl|rfl|rfl|rfl|rfl|rfl|rfl|rfl<;>
  (obtain rfl:=Aml h;exact⟨rfl,rfl,rfl⟩)
theorem Cg {a b:World}(h:Below a.heap.size a b)(row:Option Nat):a.grownBy b row:=⟨h.os,h.tape,h.output,h.size,fun k hk _=>h.block k hk⟩
theorem F7 (w:World)(p:Addr)(v:Value):w.grownBy (w.setCell p v) (some p.block) :=
 ⟨rfl,rfl,rfl,by simp[World.setCell],fun k _ hk=>by
  simp only[World.setCell];rw[Aoq,Amd (fun e=>hk (by rw[e]))]⟩
theorem Zw {w:World}{b:Nat}{v0:Value}{T:TypeId}(h:w.heap[b]?=some (.cells #[v0] T (0,0)))(v:Value):(w.setCell ⟨b,0,none⟩ v).cell? ⟨b,0,none⟩=some v:=by
 have e:(w.setCell ⟨b,0,none⟩ v).heap[b]?=some (.cells #[v] T (0,0)):=by
  simp[World.setCell,Aoq,h]
 rw[Amb e]
 rfl
theorem answer_po (sb K:Nat)(n:Int)(F:Nat)(line:ByteArray)(wd rs:List UInt8)(has:Bool)(out:ByteArray)(PO:Nat->World->Prop)(w:World)(NV:Value->World->Prop)
 (hline:line.size<4294967281) (hcut:Lib.cut line.data.toList [32]=(wd,rs,has)) (hK:A02[K]?=some (⟨wd.toArray⟩,n,F)) (hhas:has=decide (0<n))
 (hne:∀(k:Nat) c,k<K->A02[k]?=some c->¬c.1.toList=wd) (hsb:sb<w.heap.size)
 (hcall:∀(args:Array Value) (W:World),Sem.run Vp.prog (callFunc F args) W=.ok (.enter F args) W)
 (hnum:has=true->∀W,Below w.heap.size w W->Calls Vp.prog 72 #[.string ⟨rs.toArray⟩,.int .i64 n] W fun e W'=>∃v,e=.returned v/\Below W.heap.size W W'/\NV v W')
 (hrun:∀W v,Below w.heap.size w W ->(has=true->NV v W) ->(has=false->v=.slice none 0 0)->Calls Vp.prog F #[.pointer (some ⟨sb,0,none⟩),v] W fun e W'=>e=.returned (.string out)/\W.grownBy W' (some sb)/\PO W.heap.size W')
 (hpo:∀B W v,w.heap.size<B->w.heap.size<W.heap.size->PO B W->PO B (W.setCell ⟨w.heap.size,0,none⟩ v)) :
 Calls Vp.prog 32 #[.pointer (some ⟨sb,0,none⟩),.string line] w fun e w'=>e=.returned (.string out)/\w.grownBy w' (some sb)/\∃B,w.heap.size<=B/\PO B w':=by
 have hmf:∀(fn:Fn) (first cap:Array Value) (w:World),(Instr.makeFunc fn first cap).run Vp.prog w=.ok (.func fn first cap) w:=fun _ _ _ _=>rfl
 have HC:Hid (∀W:World,Calls Vp.prog 30 #[.string line,.string ⟨#[32]⟩] W fun e w'=>e=.returned (.tuple #[.string ⟨wd.toArray⟩,.string ⟨rs.toArray⟩,.bool has])/\Below W.heap.size W w'):=fun W=>by
  have h:=A3n line 32 W hline;rw[hcut]at h
  exact h.mono (by rintro e w' ⟨rfl,m,rfl⟩;exact⟨rfl,below_drewN (Amc _ _) m⟩)
 have HCM:=Aly A03;have HNE:=Aly hne;have HNU:=Aly hnum;have HR:=Aly hrun;have HPO:=Aly hpo;have HKK:=Aly hK;have HX0:=Aly (A7.new w #[.string ByteArray.empty] 9);clear hne hnum hrun hK hpo
 go_enter_defers Vp.func32,(Vp.Abj.trans Tryz.ntmps32)
 simp only[Vp.Da,Anj,Anq,Nat.reduceBEq,Aop,Amk,Ao5,Apg]
 go_wp2_with fail
 refine(HC.out _).mono ?_
 rintro e w1 ⟨rfl,hb1⟩;have HX1:=Aly (HX0.out.step hb1);clear hb1 HC HX0
 go_wp2_with fail
 refine(HCM.out _).mono ?_
 rintro e w2 ⟨rfl,hw2⟩;have HX2:Hid (A7 w w.heap.size #[.string ByteArray.empty] 9 w2):=by rw[hw2];exact HX1.out.alloc _
 have HY2:Hid (w2.heap[w1.heap.size]?=some (.cells Vr 121 (0,0))):=by rw[hw2];exact Aox w1 _
 have hcb:w.heap.size<w1.heap.size:=HX1.out.lt;clear hw2 HX1 HCM;generalize w1.heap.size=cb at *
 go_wp2_with fail
 go_loopw [20] (fun i wr=>∃k:Nat,k<=K/\i=.int .i64 k/\Hid (A7 w w.heap.size #[.string ByteArray.empty] 9 wr)/\Hid (wr.heap[cb]?=some (.cells Vr 121 (0,0)))) (fun i _=>K-(intOf i).toNat)
 case atStart=>exact⟨0,Amu _,rfl,HX2,HY2⟩
 case round =>
  obtain⟨k,hk,rfl,HX,HY⟩:=hrel;have hK13:K<13:=(Aor.1 HKK.out).1;obtain⟨c,hc⟩:∃c,A02[k]?=some c:=⟨A02[k]'(by show k<13;omega),Amw _⟩
  obtain⟨q0,q1,q2⟩:=A7a k c hc;have c0:wr.cell? ⟨cb,k*3,none⟩=some (.string c.1):=by rw[Amb HY.out];exact q0
  have c1:wr.cell? ⟨cb,k*3+1,none⟩=some (.int .i64 c.2.1):=by rw[Amb HY.out];exact q1
  have c2:wr.cell? ⟨cb,k*3+2,none⟩=some (.func (.func c.2.2) #[] #[]):=by rw[Amb HY.out];exact q2
  clear q0 q1 q2;have hYl:cb<wr.heap.size:=(Alx.1 HY.out).1
  by_cases hkK:k<K
  ·have hw:=HNE.out k c hkK hc;clear hc
   go_wp2
   exact⟨⟨k+1,by omega,by go_num,HX.out.alloc _,(Aow _ _ _ hYl).trans HY.out⟩,by simp[intOf];omega⟩
  ·have hkK':k=K:=by omega
   subst hkK';obtain rfl:c=(⟨wd.toArray⟩,n,F):=Aml (hc.symm.trans HKK.out);clear hc;have HXa:=Aly (HX.out.alloc (.cells #[.string ⟨wd.toArray⟩,.int .i64 n,.func (.func F) #[] #[]] 121));simp only at c0 c1 c2
   by_cases hn:0<n
   ·obtain rfl:has=true:=by rw[hhas];simpa using hn
    clear hhas
    go_wp2_with fail
    refine(HNU.out (by first|rfl|trivial) _ HXa.out.old).mono ?_
    rintro e w3 ⟨v,rfl,hb3,hv⟩;have HX3:=Aly (HXa.out.step hb3);have HR3:=Aly (HR.out w3 v HX3.out.old (fun _=>hv) (fun h=>by cases h))
    have c2':w3.cell? ⟨wr.heap.size,2,none⟩=some (.func (.func F) #[] #[]):=by
     rw[hb3.cell (p:=⟨wr.heap.size,2,none⟩) (by show wr.heap.size <(wr.alloc _).heap.size;simp),World.cell?_alloc_new]
     rfl
    clear hb3 hv
    go_wp2_with fail
    refine HR3.out.mono ?_
    rintro e w4 ⟨rfl,hg4,hC4⟩;have hbl:w4.heap[w.heap.size]?=some (.cells #[.string ByteArray.empty] 9 (0,0)):=(hg4.block _ HX3.out.lt (fun e=>by injection e with e;omega)).trans HX3.out.blk
    have hx4:w4.cell? ⟨w.heap.size,0,none⟩=some (.string ByteArray.empty):=by rw[Amb hbl];rfl
    have hf4:w4.frozen? ⟨w.heap.size,0,none⟩=false:=Aog hbl 0
    have HF:Hid (w.grownBy (w4.setCell ⟨w.heap.size,0,none⟩ (.string out)) (some sb) /\(∃B,w.heap.size<=B/\PO B (w4.setCell ⟨w.heap.size,0,none⟩ (.string out))) /\(w4.setCell ⟨w.heap.size,0,none⟩ (.string out)).cell? ⟨w.heap.size,0,none⟩=some (.string out)):=by
     have hlt:=(Alx.1 hbl).1;have h1:=Cg HX3.out.old (some sb);have h2:w4.grownBy (w4.setCell ⟨w.heap.size,0,none⟩ (.string out)) (some w.heap.size):=F7 w4 _ _
     refine⟨(h1.trans hg4).andThen h2 (fun j hj=>.inl (by injection hj with hj;omega)),?_,?_⟩
     ·exact⟨_,Apt HX3.out.lt,HPO.out _ _ _ HX3.out.lt hlt hC4⟩
     ·exact Zw hbl _
    clear hg4 hC4 hbl
    go_wp2
    refine leaves_cons (f:=70) (args:=#[.pointer (some ⟨w.heap.size,0,none⟩)]) (by simp) (by simp[go_sem]) ?_
    refine(Pf ⟨w.heap.size,0,none⟩ _).mono ?_
    rintro e u' w'' ⟨rfl,rfl,rfl⟩;obtain⟨f1,f2,f3⟩:=HF.out;simp[Leaves,settle,results,Vp.Tk,Tryz.results32,go_sem,f3,f1,f2]
   ·obtain rfl:has=false:=by rw[hhas];simpa using hn
    clear hhas;have HX3:=HXa;have HR3:=Aly (HR.out _ (.slice none 0 0) HX3.out.old (fun h=>by cases h) (fun _=>rfl))
    go_wp2_with fail
    refine HR3.out.mono ?_
    rintro e w4 ⟨rfl,hg4,hC4⟩;have hbl:w4.heap[w.heap.size]?=some (.cells #[.string ByteArray.empty] 9 (0,0)):=(hg4.block _ HX3.out.lt (fun e=>by injection e with e;omega)).trans HX3.out.blk
    have hx4:w4.cell? ⟨w.heap.size,0,none⟩=some (.string ByteArray.empty):=by rw[Amb hbl];rfl
    have hf4:w4.frozen? ⟨w.heap.size,0,none⟩=false:=Aog hbl 0
    have HF:Hid (w.grownBy (w4.setCell ⟨w.heap.size,0,none⟩ (.string out)) (some sb) /\(∃B,w.heap.size<=B/\PO B (w4.setCell ⟨w.heap.size,0,none⟩ (.string out))) /\(w4.setCell ⟨w.heap.size,0,none⟩ (.string out)).cell? ⟨w.heap.size,0,none⟩=some (.string out)):=by
     have hlt:=(Alx.1 hbl).1;have h1:=Cg HX3.out.old (some sb);have h2:w4.grownBy (w4.setCell ⟨w.heap.size,0,none⟩ (.string out)) (some w.heap.size):=F7 w4 _ _
     refine⟨(h1.trans hg4).andThen h2 (fun j hj=>.inl (by injection hj with hj;omega)),?_,?_⟩
     ·exact⟨_,Apt HX3.out.lt,HPO.out _ _ _ HX3.out.lt hlt hC4⟩
     ·exact Zw hbl _
    clear hg4 hC4 hbl
    go_wp2
    refine leaves_cons (f:=70) (args:=#[.pointer (some ⟨w.heap.size,0,none⟩)]) (by simp) (by simp[go_sem]) ?_
    refine(Pf ⟨w.heap.size,0,none⟩ _).mono ?_
    rintro e u' w'' ⟨rfl,rfl,rfl⟩;obtain⟨f1,f2,f3⟩:=HF.out;simp[Leaves,settle,results,Vp.Tk,Tryz.results32,go_sem,f3,f1,f2]
theorem Ob (sb K:Nat)(n:Int)(F:Nat)(line:ByteArray)(wd rs:List UInt8)(has:Bool)(out:ByteArray)(C:Array Value)(w:World)(NV:Value->World->Prop)
 (hline:line.size<4294967281) (hcut:Lib.cut line.data.toList [32]=(wd,rs,has)) (hK:A02[K]?=some (⟨wd.toArray⟩,n,F)) (hhas:has=decide (0<n))
 (hne:∀(k:Nat) c,k<K->A02[k]?=some c->¬c.1.toList=wd) (hsb:sb<w.heap.size)
 (hcall:∀(args:Array Value) (W:World),Sem.run Vp.prog (callFunc F args) W=.ok (.enter F args) W)
 (hnum:has=true->∀W,Below w.heap.size w W->Calls Vp.prog 72 #[.string ⟨rs.toArray⟩,.int .i64 n] W fun e W'=>∃v,e=.returned v/\Below W.heap.size W W'/\NV v W')
 (hrun:∀W v,Below w.heap.size w W ->(has=true->NV v W) ->(has=false->v=.slice none 0 0)->Calls Vp.prog F #[.pointer (some ⟨sb,0,none⟩),v] W fun e W'=>e=.returned (.string out)/\W.grownBy W' (some sb)/\W'.heap[sb]?=some (.cells C 64 (0,0))) :
 Calls Vp.prog 32 #[.pointer (some ⟨sb,0,none⟩),.string line] w fun e w'=>e=.returned (.string out)/\w.grownBy w' (some sb)/\w'.heap[sb]?=some (.cells C 64 (0,0)) :=
 (answer_po sb K n F line wd rs has out (fun _ W=>W.heap[sb]?=some (.cells C 64 (0,0))) w NV hline hcut hK hhas hne hsb hcall hnum hrun (fun B W v _ h h'=>by
  rw[(F7 W ⟨w.heap.size,0,none⟩ v).block sb (by omega) (fun e=>by have e:sb=w.heap.size:=Aml e;omega)]
  exact h')).mono fun e w' ⟨h1,h2,B,_,h3⟩=>⟨h1,h2,h3⟩
end
end Go.Proofs.YtjaehldnlamgkaaGreatDoor
section
namespace Go.Proofs.YtjaehldnlamgkaaGreatDoor
def Sy (X Y:Int):Nat->Int×Int×Nat
 | 0=>(X,Y,0)
 | d+1=>if X % 2=0/\Y % 2=0 then Sy (X / 2) (Y / 2) d else(X,Y,d+1)
structure Alv (X Y:Int)(d:Nat)(r:Int×Int×Nat):Prop where
 le:r.2.2<=d
 re:r.1 *(2^(d-r.2.2):Nat)=X
 im:r.2.1 *(2^(d-r.2.2):Nat)=Y
 odd:r.2.2=0\/¬(r.1 % 2=0/\r.2.1 % 2=0)
 bre:r.1.natAbs<=X.natAbs
 bim:r.2.1.natAbs<=Y.natAbs
theorem and_one (a:Int)(h1:-9223372036854775808<=a)(h2:a<=9223372036854775807):bits .and .i64 a 1=a % 2:=by
 have key:(BitVec.ofInt 64 a).toNat % 2=(a % 2).toNat:=by
  rw[BitVec.toNat_ofInt]
  omega
 show IntKind.i64.wrap ((BitVec.ofInt 64 a &&& BitVec.ofInt 64 1).toNat:Int)=_
 rw[BitVec.toNat_and,show(BitVec.ofInt 64 1).toNat=2^1-1 from rfl,Nat.and_two_pow_sub_one_eq_mod];rw[show(2:Nat)^1=2 from rfl,key];simp[IntKind.wrap,IntKind.bits,IntKind.signed]
 omega
def Gk (a b:Int):Bool:=decide (a % 2=0/\b % 2=0)
def Br (a b s:Int):Bool:=decide (-1073741824<=a/\a<=1073741824/\-1073741824<=b/\b<=1073741824/\0<=s/\s<=60) && (decide (s=0) || !Gk a b)
namespace Flo
open Ieee
end Flo
end Go.Proofs.YtjaehldnlamgkaaGreatDoor
end
namespace Go.Proofs.YtjaehldnlamgkaaGreatDoor
section
open Go.RowKit
def Tab (w:World):Prop:=∀j,j<Lib.deBruijn64tab.length->w.cell? ⟨1,j,none⟩=some (.int .u8 (Lib.deBruijn64tab.getD j 0))
theorem Tab.step {w w':World}(h:Tab w)(k:Below w.heap.size w w'):Tab w':=fun j hj=>(k.cell (Aqy w _ (h j hj))).trans (h j hj)
end
section
open Go.RowKit Flo
theorem Xy (a b s:Int)(ha:a.natAbs<=4611686018427387904)(hb:b.natAbs<=4611686018427387904)(w:World):Calls Vp.prog 64 #[.agg #[.int .i64 a,.int .i64 b,.int .i64 s]] w fun e w'=>e=.returned (.bool (Gk a b))/\Below w.heap.size w w':=by
 have e1:=and_one a (by omega) (by omega)
 have e2:=and_one b (by omega) (by omega)
 have HB:Hid (Below w.heap.size w (w.alloc (.cells #[.int .i64 a,.int .i64 b,.int .i64 s] 24))):=(Amc _ _).alloc (Am0 _) _
 have HE:Hid (Gk a b=(decide (a % 2=0) && decide (b % 2=0))):=by
  show _=_
  unfold Gk;rw[Bool.decide_and]
 by_cases h1:a % 2=0
 ·by_cases h2:b % 2=0
  ·have HK:Hid (Gk a b=true):=by rw[HE.out,An0 h1,An0 h2];rfl
   go_enter Vp.func64,Tryz.ntmps64
   go_wp2
   go_ret
   exact⟨Tm HK.out.symm,HB.out⟩
  ·have HK:Hid (Gk a b=false):=by rw[HE.out,Ana h2,Bool.and_false];rfl
   have h3:(b % 2 == 0)=false:=by simp[h2]
   go_enter Vp.func64,Tryz.ntmps64
   go_wp2
   go_ret
   exact⟨Tm HK.out.symm,HB.out⟩
 ·have HK:Hid (Gk a b=false):=by rw[HE.out,Ana h1,Bool.false_and];rfl
  have h3:(a % 2 == 0)=false:=by simp[h1]
  go_enter Vp.func64,Tryz.ntmps64
  go_wp2
  go_ret
  exact⟨Tm HK.out.symm,HB.out⟩
theorem A30 (a b s:Int)(hv:Br a b s=true)(w:World):Calls Vp.prog 25 #[.agg #[.int .i64 a,.int .i64 b,.int .i64 s]] w fun e w'=>e=.returned (.bool true)/\Below w.heap.size w w':=by
 unfold Br at hv;rw[Am8,Amt,Ane,Amt,Apf]at hv;obtain⟨⟨h1,h2,h3,h4,h5,h6⟩,h7⟩:=hv;have B:=A7.new w #[.int .i64 a,.int .i64 b,.int .i64 s] 24;have c0:=B.cell 0 (.int .i64 a) rfl;have c1:=B.cell 1 (.int .i64 b) rfl;have c2:=B.cell 2 (.int .i64 s) rfl;have HB:=Aly B;have HE:=Aly (Xy a b s (by omega) (by omega))
 have d1:decide (a < -1073741824)=false:=by simp;omega
 have d2:decide (1073741824<a)=false:=by simp;omega
 have d3:decide (b < -1073741824)=false:=by simp;omega
 have d4:decide (1073741824<b)=false:=by simp;omega
 have d5:decide (s<0)=false:=by simp;omega
 have d6:decide (60<s)=false:=by simp;omega
 clear B
 by_cases h8:s=0
 ·have d7:(s == 0)=true:=by simp[h8]
  clear h7 h8
  go_enter Vp.func25,Tryz.ntmps25
  go_wp2
  go_ret
  exact⟨rfl,HB.out.old⟩
 ·have d7:(s == 0)=false:=by simp[h8]
  have hev:Gk a b=false:=by rcases h7 with h|h;exact absurd h h8;exact h
  rw[hev]at HE;clear h7 h8 hev
  go_enter Vp.func25,Tryz.ntmps25
  go_wp2_with (go_at_call 64;refine(HE.out _).mono ?_;rintro e w1 ⟨rfl,hd⟩;have HB2:=Aly (HB.out.step hd).old;clear hd)
  go_ret
  exact⟨rfl,HB2.out⟩
theorem A85 (m n:Int)(k:Nat):Sy (2*m) (2*n) (k+1)=Sy m n k:=by
 show(if _/\_ then _ else _)=_
 rw[Amo ⟨by omega,by omega⟩,show 2*m / 2=m by omega,show 2*n / 2=n by omega]
theorem Wn {X Y:Int}{k:Nat}(h:Gk X Y=false):Sy X Y k=(X,Y,k):=by
 cases k with
 | zero=>rfl
 | succ k =>
   unfold Gk at h;rw[Apv]at h
   show(if _/\_ then _ else _)=_
   rw[Amd h]
theorem A7.A23 {w0 W:World}{b:Nat}{v0 v1 v2:Value}{T:TypeId}(h:A7 w0 b #[v0,v1,v2] T W)(hb:w0.heap.size<=b)(u0 u1 u2:Value) :
 A7 w0 b #[u0,u1,u2] T (((W.setCell ⟨b,0,none⟩ u0).setCell ⟨b,1,none⟩ u1).setCell ⟨b,2,none⟩ u2):=((h.set hb 0 u0).set hb 1 u1).set hb 2 u2
theorem A7.Ahd {w0 W:World}{b:Nat}{C:Array Value}{T:TypeId}(h:A7 w0 b C T W){p:Nat}(hp:w0.heap.size<=p)(hne:b≠p)(u0 u1 u2:Value) :
 A7 w0 b C T (((W.setCell ⟨p,0,none⟩ u0).setCell ⟨p,1,none⟩ u1).setCell ⟨p,2,none⟩ u2):=((h.other (p:=⟨p,0,none⟩) hp hne u0).other (p:=⟨p,1,none⟩) hp hne u1).other (p:=⟨p,2,none⟩) hp hne u2
theorem A7.C5 {w0 W:World}{b:Nat}{v0 v1 v2:Value}{T:TypeId}(h:A7 w0 b #[v0,v1,v2] T W):W.cell? ⟨b,0,none⟩=some v0/\W.cell? ⟨b,1,none⟩=some v1/\W.cell? ⟨b,2,none⟩=some v2:=⟨h.cell 0 _ rfl,h.cell 1 _ rfl,h.cell 2 _ rfl⟩
theorem A7.A0o {w0 W:World}{b:Nat}{C:Array Value}{T:TypeId}(h:A7 w0 b C T W):W.frozen? ⟨b,0,none⟩=false/\W.frozen? ⟨b,1,none⟩=false/\W.frozen? ⟨b,2,none⟩=false:=⟨h.frozen 0,h.frozen 1,h.frozen 2⟩
end
section
open Go.RowKit Flo
def dyR (r:Int×Int×Nat):Value:=if Br r.1 r.2.1 r.2.2=true then .tuple #[.agg #[.int .i64 r.1,.int .i64 r.2.1,.int .i64 r.2.2],.bool true]else .tuple #[.agg #[.int .i64 0,.int .i64 0,.int .i64 0],.bool false]
theorem Xw {x y:Int}{k:Nat}(h:Br x y k=true):dyR (x,y,k)=.tuple #[.agg #[.int .i64 x,.int .i64 y,.int .i64 k],.bool true]:=by unfold dyR;rw[Amo h]
theorem Aak {x y:Int}{k:Nat}(h:Br x y k=false):dyR (x,y,k)=.tuple #[.agg #[.int .i64 0,.int .i64 0,.int .i64 0],.bool false]:=by unfold dyR;rw[Amd (by rw[h];exact Bool.false_ne_true)]
theorem Ol {a b s:Int}(h:¬(-1073741824<=a/\a<=1073741824/\-1073741824<=b/\b<=1073741824/\0<=s/\s<=60)):Br a b s=false:=by unfold Br;rw[Ana h];rfl
theorem Ua (a b:Int)(s:Int)(ha:a.natAbs<=4611686018427387904)(hb:b.natAbs<=4611686018427387904)(w:World):Calls Vp.prog 25 #[.agg #[.int .i64 a,.int .i64 b,.int .i64 s]] w fun e w'=>e=.returned (.bool (Br a b s))/\Below w.heap.size w w':=by
 by_cases hr:-1073741824<=a/\a<=1073741824/\-1073741824<=b/\b<=1073741824/\0<=s/\s<=60
 ·cases hv:Br a b s with
  | true=>exact A30 a b s hv w
  | false =>
    have B:=A7.new w #[.int .i64 a,.int .i64 b,.int .i64 s] 24;have c0:=B.cell 0 (.int .i64 a) rfl;have c1:=B.cell 1 (.int .i64 b) rfl;have c2:=B.cell 2 (.int .i64 s) rfl;have HB:=Aly B;have HE:=Aly (Xy a b s ha hb);have d1:decide (a < -1073741824)=false:=by simp;omega
    have d2:decide (1073741824<a)=false:=by simp;omega
    have d3:decide (b < -1073741824)=false:=by simp;omega
    have d4:decide (1073741824<b)=false:=by simp;omega
    have d5:decide (s<0)=false:=by simp;omega
    have d6:decide (60<s)=false:=by simp;omega
    unfold Br at hv;rw[An0 hr,Aq7,Bool.or_eq_false_iff,Apv,Bool.not_eq_false']at hv;obtain⟨h8,hev⟩:=hv;have d7:(s == 0)=false:=by simp[h8]
    rw[hev]at HE;clear B hr h8 hev
    go_enter Vp.func25,Tryz.ntmps25
    go_wp2_with (go_at_call 64;refine(HE.out _).mono ?_;rintro e w1 ⟨rfl,hd⟩;have HB2:=Aly (HB.out.step hd).old;clear hd)
    go_ret
    exact⟨rfl,HB2.out⟩
 ·have HV:=Aly (Ol hr);have B:=A7.new w #[.int .i64 a,.int .i64 b,.int .i64 s] 24;have c0:=B.cell 0 (.int .i64 a) rfl;have c1:=B.cell 1 (.int .i64 b) rfl;have c2:=B.cell 2 (.int .i64 s) rfl;have HB:=Aly B;clear B
  by_cases h1:a < -1073741824
  ·have d1:decide (a < -1073741824)=true:=by simp;omega
   clear hr
   go_enter Vp.func25,Tryz.ntmps25
   go_wp2
   go_ret
   exact⟨by rw[HV.out];rfl,HB.out.old⟩
  ·have d1:decide (a < -1073741824)=false:=by simp;omega
   by_cases h2:1073741824<a
   ·have d2:decide (1073741824<a)=true:=by simp;omega
    clear hr
    go_enter Vp.func25,Tryz.ntmps25
    go_wp2
    go_ret
    exact⟨by rw[HV.out];rfl,HB.out.old⟩
   ·have d2:decide (1073741824<a)=false:=by simp;omega
    by_cases h3:b < -1073741824
    ·have d3:decide (b < -1073741824)=true:=by simp;omega
     clear hr
     go_enter Vp.func25,Tryz.ntmps25
     go_wp2
     go_ret
     exact⟨by rw[HV.out];rfl,HB.out.old⟩
    ·have d3:decide (b < -1073741824)=false:=by simp;omega
     by_cases h4:1073741824<b
     ·have d4:decide (1073741824<b)=true:=by simp;omega
      clear hr
      go_enter Vp.func25,Tryz.ntmps25
      go_wp2
      go_ret
      exact⟨by rw[HV.out];rfl,HB.out.old⟩
     ·have d4:decide (1073741824<b)=false:=by simp;omega
      by_cases h5:s<0
      ·have d5:decide (s<0)=true:=by simp;omega
       clear hr
       go_enter Vp.func25,Tryz.ntmps25
       go_wp2
       go_ret
       exact⟨by rw[HV.out];rfl,HB.out.old⟩
      ·have d5:decide (s<0)=false:=by simp;omega
       have d6:decide (60<s)=true:=by simp;omega
       clear hr
       go_enter Vp.func25,Tryz.ntmps25
       go_wp2
       go_ret
       exact⟨by rw[HV.out];rfl,HB.out.old⟩
theorem Xx (X Y:Int)(d:Nat)(hX:X.natAbs<=4611686018427387904)(hY:Y.natAbs<=4611686018427387904)(hd:d<=120)(w:World) :
 Calls Vp.prog 58 #[.int .i64 X,.int .i64 Y,.int .i64 d] w fun e w'=>e=.returned (dyR (Sy X Y d))/\Below w.heap.size w w':=by
 have R0:=(A7.new w #[.int .i64 0,.int .i64 0,.int .i64 0] 24).alloc (.cells #[.int .i64 X,.int .i64 Y,.int .i64 d] 24);have O0:=(A7.new (w.alloc (.cells #[.int .i64 0,.int .i64 0,.int .i64 0] 24)) #[.int .i64 X,.int .i64 Y,.int .i64 d] 24).up ((Amc w.heap.size w).alloc (Am0 _) _);rw[show(w.alloc (.cells #[.int .i64 0,.int .i64 0,.int .i64 0] 24)).heap.size=w.heap.size+1 by simp]at O0
 have HR:=Aly R0;have HO:=Aly O0;have d1:decide ((d:Int)<0)=false:=by simp
 have d2:decide ((120:Int)<d)=false:=by simp;omega
 have d3:decide (X < -4611686018427387904)=false:=by simp;omega
 have d4:decide (4611686018427387904<X)=false:=by simp;omega
 have d5:decide (Y < -4611686018427387904)=false:=by simp;omega
 have d6:decide (4611686018427387904<Y)=false:=by simp;omega
 clear R0 O0
 go_enter Vp.func58,Tryz.ntmps58
 go_wp2
 clear d1 d2 d3 d4 d5 d6
 go_loopw [41] (fun _ wr=>∃(x y:Int) (k:Nat),k<=d/\x.natAbs<=4611686018427387904/\y.natAbs<=4611686018427387904/\Hid (Sy x y k=Sy X Y d)/\Hid (A7 w (w.heap.size+1) #[.int .i64 x,.int .i64 y,.int .i64 k] 24 wr)/\Hid (A7 w w.heap.size #[.int .i64 0,.int .i64 0,.int .i64 0] 24 wr)) (fun _ wr=>(intOf ((wr.cell? ⟨w.heap.size+1,2,none⟩).getD undef)).toNat)
 case atStart=>exact⟨X,Y,d,by omega,hX,hY,rfl,HO.out,HR.out⟩
 case round =>
  obtain⟨x,y,k,hk,hx,hy,HL,HB,HR⟩:=hrel;obtain⟨c0,c1,c2⟩:=HB.out.C5;obtain⟨f0,f1,f2⟩:=HB.out.A0o;have HE:=Aly (Xy x y k (by omega) (by omega))
  obtain⟨r0,r1,r2⟩:=HR.out.C5;obtain⟨g0,g1,g2⟩:=HR.out.A0o;have HF:Hid (∀W,Below wr.heap.size wr W->A7 w (w.heap.size+1) #[.int .i64 x,.int .i64 y,.int .i64 k] 24 W/\A7 w w.heap.size #[.int .i64 0,.int .i64 0,.int .i64 0] 24 W):=fun W h=>⟨HB.out.step h,HR.out.step h⟩
  have HDONE:Hid (Gk x y=false\/k=0->Sy X Y d=(x,y,k)):=fun h=>by
   rw[<-HL.out]
   rcases h with h|h
   ·exact Wn h
   ·rw[h];rfl
  rcases Ani k with h0|h0
  ·have he:=HDONE.out (.inr h0);subst h0;have HEQ:=Aly he;have HVV:=Aly (Ua x y 0 hx hy);have HB1:Hid (A7 w (w.heap.size+1) #[.int .i64 x,.int .i64 y,.int .i64 0] 24 wr):=HB;have HF1:Hid (∀W,Below wr.heap.size wr W->A7 w (w.heap.size+1) #[.int .i64 x,.int .i64 y,.int .i64 0] 24 W/\A7 w w.heap.size #[.int .i64 0,.int .i64 0,.int .i64 0] 24 W):=HF;clear HF HB;have HF:=HF1;have HB:=HB1;clear HF1 HB1;have c2:wr.cell? ⟨w.heap.size+1,2,none⟩=some (.int .i64 0):=c2;clear HDONE HL he HE
   go_wp2_with fail
   refine(HVV.out _).mono ?_
   rintro e w1 ⟨rfl,hd⟩;obtain⟨HB2,HR2⟩:=HF.out _ hd;obtain⟨q0,q1,q2⟩:=HB2.C5;obtain⟨r0,r1,r2⟩:=HR2.C5;obtain⟨g0,g1,g2⟩:=HR2.A0o
   cases hvb:Br x y 0 with
   | true =>
     have HZ:=Aly (HR2.A23 (Am0 _) (.int .i64 x) (.int .i64 y) (.int .i64 0));have HVB:=Aly hvb;clear hd HB2 HR2 HF HB HR hvb
     go_wp2
     exact Am5 (v:=.tuple #[.agg #[.int .i64 x,.int .i64 y,.int .i64 0],.bool true]) (by simp[results,Tryz.f58,go_sem,r0,r1,r2]) rfl ⟨by rw[HEQ.out];exact(Xw HVB.out).symm▸rfl,HZ.out.old⟩
   | false =>
     have HZ:=Aly (HR2.A23 (Am0 _) (.int .i64 0) (.int .i64 0) (.int .i64 0));have HVB:=Aly hvb;clear hd HB2 HR2 HF HB HR hvb
     go_wp2
     exact Am5 (v:=.tuple #[.agg #[.int .i64 0,.int .i64 0,.int .i64 0],.bool false]) (by simp[results,Tryz.f58,go_sem,r0,r1,r2]) rfl ⟨by rw[HEQ.out];exact(Aak HVB.out).symm▸rfl,HZ.out.old⟩
  ·have d1:decide ((0:Int)<k)=true:=by simp;omega
   cases hE:Gk x y with
   | false =>
     have he:=HDONE.out (.inl hE);have HEQ:=Aly he;have HVV:=Aly (Ua x y k hx hy);rw[hE]at HE;clear HDONE HL he hE
     go_wp2_with fail
     refine(HE.out _).mono ?_
     rintro e w1 ⟨rfl,hd⟩;have HD2:=Aly (HF.out _ hd);have HD3:=Aly hd;obtain⟨q0,q1,q2⟩:=HD2.out.1.C5;clear hd
     go_wp2_with fail
     refine(HVV.out _).mono ?_
     rintro e w2 ⟨rfl,hd⟩;have hd2:=hd.mono HD3.out.size;have hd:=HD3.out.trans hd2;obtain⟨HB2,HR2⟩:=HF.out _ hd;clear q0 q1 q2;obtain⟨q0,q1,q2⟩:=HB2.C5;obtain⟨r0,r1,r2⟩:=HR2.C5;obtain⟨g0,g1,g2⟩:=HR2.A0o
     cases hvb:Br x y k with
     | true =>
       have HZ:=Aly (HR2.A23 (Am0 _) (.int .i64 x) (.int .i64 y) (.int .i64 k));have HVB:=Aly hvb;clear hd HB2 HR2 HF HB HR HD2 HD3 hd2 hvb
       go_wp2
       exact Am5 (v:=.tuple #[.agg #[.int .i64 x,.int .i64 y,.int .i64 k],.bool true]) (by simp[results,Tryz.f58,go_sem,r0,r1,r2]) rfl ⟨by rw[HEQ.out];exact(Xw HVB.out).symm▸rfl,HZ.out.old⟩
     | false =>
       have HZ:=Aly (HR2.A23 (Am0 _) (.int .i64 0) (.int .i64 0) (.int .i64 0));have HVB:=Aly hvb;clear hd HB2 HR2 HF HB HR HD2 HD3 hd2 hvb
       go_wp2
       exact Am5 (v:=.tuple #[.agg #[.int .i64 0,.int .i64 0,.int .i64 0],.bool false]) (by simp[results,Tryz.f58,go_sem,r0,r1,r2]) rfl ⟨by rw[HEQ.out];exact(Aak HVB.out).symm▸rfl,HZ.out.old⟩
   | true =>
     have hev:=hE;unfold Gk at hev;rw[Amt]at hev;obtain⟨m,rfl⟩:∃m,x=2*m:=⟨x / 2,by omega⟩
     obtain⟨n,rfl⟩:∃n,y=2*n:=⟨y / 2,by omega⟩
     obtain⟨k,rfl⟩:∃k',k=k'+1:=⟨k-1,by omega⟩
     have t1:(2*m).tdiv 2=m:=Int.mul_tdiv_cancel_left m (by decide)
     have t2:(2*n).tdiv 2=n:=Int.mul_tdiv_cancel_left n (by decide)
     have t3:((k+1:Nat):Int)-1=k:=by omega
     have HL2:=Aly ((A85 m n k).symm.trans HL.out);rw[hE]at HE;clear HDONE hE hev h0 HL
     go_wp2_with (go_at_call 64;refine(HE.out _).mono ?_;rintro e w1 ⟨rfl,hd⟩;have HB2:=Aly (HF.out _ hd).1;have HR2:=Aly (HF.out _ hd).2;obtain⟨q0,q1,q2⟩:=HB2.out.C5;obtain⟨g0,g1,g2⟩:=HB2.out.A0o;clear hd)
     have b0:=HB2.out.lt
     refine⟨⟨m,n,k,by omega,by omega,by omega,HL2,HB2.out.A23 (by omega) _ _ _,HR2.out.Ahd (by omega) (by omega) _ _ _⟩,?_⟩
     rw[((HB2.out.A23 (by omega) (.int .i64 m) (.int .i64 n) (.int .i64 k)).C5).2.2,c2]
     simp[intOf]
end
section
open Go.RowKit
def G5 (a b l m:Int)(tc:List Value):Array Value:=(.int .i64 a :: .int .i64 b :: .int .i64 l :: .int .i64 m :: tc).toArray
structure SW (sb:Nat)(a b l m:Int)(tc:List Value)(W:World):Prop where
 blk:W.heap[sb]?=some (.cells (G5 a b l m tc) 64 (0,0))
theorem SW.lt {sb:Nat}{a b l m:Int}{tc:List Value}{W:World}(h:SW sb a b l m tc W):sb<W.heap.size:=(Alx.1 h.blk).1
theorem SW.c0 {sb:Nat}{a b l m:Int}{tc:List Value}{W:World}(h:SW sb a b l m tc W):W.cell? ⟨sb,0,none⟩=some (.int .i64 a):=by rw[Amb h.blk];rfl
theorem SW.c1 {sb:Nat}{a b l m:Int}{tc:List Value}{W:World}(h:SW sb a b l m tc W):W.cell? ⟨sb,1,none⟩=some (.int .i64 b):=by rw[Amb h.blk];rfl
theorem SW.c2 {sb:Nat}{a b l m:Int}{tc:List Value}{W:World}(h:SW sb a b l m tc W):W.cell? ⟨sb,2,none⟩=some (.int .i64 l):=by rw[Amb h.blk];rfl
theorem SW.c3 {sb:Nat}{a b l m:Int}{tc:List Value}{W:World}(h:SW sb a b l m tc W):W.cell? ⟨sb,3,none⟩=some (.int .i64 m):=by rw[Amb h.blk];rfl
theorem SW.fr {sb:Nat}{a b l m:Int}{tc:List Value}{W:World}(h:SW sb a b l m tc W)(j:Nat):W.frozen? ⟨sb,j,none⟩=false:=Aog h.blk j
theorem SW.step {sb:Nat}{a b l m:Int}{tc:List Value}{W W':World}(h:SW sb a b l m tc W)(k:Below W.heap.size W W'):SW sb a b l m tc W':=⟨(k.block sb h.lt).trans h.blk⟩
def N64 (x:Int):Prop:=-9223372036854775808<=x/\x<=9223372036854775807
theorem Mn (ns:List Int)(w W:World)(htab:Lib.TabIs Vp.prog w "internal/strconv.uint64pow10" .u64 Lib.pow10Tab)(hn:ns.length<=8)(hbd:∀x∈ns,N64 x)(hlen:(Ae ns).length<=140737488355328)
 (hW:Below (w.alloc (.cells (ns.map fun n=>Value.int .i64 n).toArray 3)).heap.size (w.alloc (.cells (ns.map fun n=>Value.int .i64 n).toArray 3)) W) :
 Calls Vp.prog 34 #[.slice (some ⟨w.heap.size,0,none⟩) ns.length ns.length] W fun e w'=>e=.returned (.string ⟨(Ae ns).toArray⟩)/\Below w.heap.size w w':=by
 have h0:Below w.heap.size w W:=((Amc _ _).alloc (Am0 _) _).trans (hW.mono (by simp))
 refine(A8v w.heap.size 0 ns.length ns W (Cv h0 rfl htab) (fun j x hx=>?_) (Am2 (by simp) hW.size) hn (Am0 _) hbd hlen).mono ?_
 ·rw[Aqr,hW.cell (p:=⟨w.heap.size,j,none⟩) (by simp),World.cell?_alloc_new]
  simp[hx]
 ·rintro e w' ⟨rfl,hb⟩
  exact⟨rfl,h0.trans (hb.mono h0.size)⟩
theorem Ad3 (sb:Nat)(a b l m:Int)(tc:List Value)(nv:Value)(w:World)(htab:Lib.TabIs Vp.prog w "internal/strconv.uint64pow10" .u64 Lib.pow10Tab)(hS:SW sb a b l m tc w)
 (ha:N64 a) (hb:N64 b) (hl:N64 l) (hlen:(Ae [a,b,l]).length<=140737488355328) :
 Calls Vp.prog 108 #[.pointer (some ⟨sb,0,none⟩),nv] w fun e w'=>e=.returned (.string ⟨(Ae [a,b,l]).toArray⟩)/\Below w.heap.size w w':=by
 have HSP:Hid (∀W:World,Below (w.alloc (.cells #[.int .i64 a,.int .i64 b,.int .i64 l] 3)).heap.size (w.alloc (.cells #[.int .i64 a,.int .i64 b,.int .i64 l] 3)) W->Calls Vp.prog 34 #[.slice (some ⟨w.heap.size,0,none⟩) 3 3] W fun e w'=>e=.returned (.string ⟨(Ae [a,b,l]).toArray⟩)/\Below w.heap.size w w'):=fun W hW =>
  Mn [a,b,l] w W htab (by simp) (fun x hx=>by simp at hx;rcases hx with rfl|rfl|rfl<;>assumption) hlen hW
 have c0:=hS.c0;have c1:=hS.c1;have c2:=hS.c2;have HB:=Aly (Amc (w.alloc (.cells #[.int .i64 a,.int .i64 b,.int .i64 l] 3)).heap.size (w.alloc (.cells #[.int .i64 a,.int .i64 b,.int .i64 l] 3)));have HS:Hid (∀W,Below w.heap.size w W->SW sb a b l m tc W):=fun W h=>hS.step h
 clear htab hS ha hb hl hlen
 go_enter Vp.func108,Tryz.ntmps108
 go_wp2
 go_region_held3 (fun w'=>w'.cell? ⟨sb,0,none⟩=some (.int .i64 a)/\w'.cell? ⟨sb,1,none⟩=some (.int .i64 b)/\w'.cell? ⟨sb,2,none⟩=some (.int .i64 l)) (go_keep) (first
  |(go_at_call 34;refine(HSP.out _ (by first|exact HB.out|exact HB.out.drew|exact HB.out.drew.drew)).mono ?_;rintro e w' ⟨rfl,hb1⟩;have k0:=(HS.out _ hb1).c0;have k1:=(HS.out _ hb1).c1;have k2:=(HS.out _ hb1).c2))
 all_goals
  go_wp2
  go_ret
  exact⟨rfl,by assumption⟩
theorem Rw {a b s:Int}(h:Br a b s=true):-1073741824<=a/\a<=1073741824/\-1073741824<=b/\b<=1073741824/\0<=s/\s<=60:=by
 unfold Br at h;rw[Am8,Amt]at h
 exact h.1
theorem Ajl {w W1:World}(e:W1.heap[w.heap.size]?=some (.cells #[.int .i64 0,.int .i64 0,.int .i64 0] 24 (0,0))) :
 W1.cell? ⟨w.heap.size,0,none⟩=some (.int .i64 0)/\W1.cell? ⟨w.heap.size,1,none⟩=some (.int .i64 0)/\W1.cell? ⟨w.heap.size,2,none⟩=some (.int .i64 0)/\W1.frozen? ⟨w.heap.size,0,none⟩=false/\W1.frozen? ⟨w.heap.size,1,none⟩=false/\W1.frozen? ⟨w.heap.size,2,none⟩=false :=
 ⟨by rw[Amb e];rfl,by rw[Amb e];rfl,by rw[Amb e];rfl,Aog e 0,Aog e 1,Aog e 2⟩
theorem A22 {sb:Nat}{a0 b0 l0 m:Int}{tc:List Value}{w W:World}(h:SW sb a0 b0 l0 m tc W)(hb:Below w.heap.size w W)(a b l:Int) :
 w.grownBy (((W.setCell ⟨sb,0,none⟩ (.int .i64 a)).setCell ⟨sb,1,none⟩ (.int .i64 b)).setCell ⟨sb,2,none⟩ (.int .i64 l)) (some sb)/\SW sb a b l m tc (((W.setCell ⟨sb,0,none⟩ (.int .i64 a)).setCell ⟨sb,1,none⟩ (.int .i64 b)).setCell ⟨sb,2,none⟩ (.int .i64 l)):=by
 refine⟨(((Cg hb (some sb)).trans (F7 W _ _)).trans (F7 _ _ _)).trans (F7 _ _ _),⟨?_⟩⟩
 simp[World.setCell,Aoq,h.blk,G5]
theorem Aje (sb g:Nat)(a0 b0 l0 m:Int)(a b:Int)(l:Nat)(tc:List Value)(w:World)(hS:SW sb a0 b0 l0 m tc w)
 (hR:w.ownsRow 0 3 1 (.slice (some ⟨g,0,none⟩) 3 3) 3 ([a,b,(l:Int)].map By)) (hd:Br a b l=true) (hlow:Sy a b l=(a,b,l)) :
 Calls Vp.prog 106 #[.pointer (some ⟨sb,0,none⟩),.slice (some ⟨g,0,none⟩) 3 3] w fun e w'=>e=.returned (.string ⟨#[111,107]⟩)/\w.grownBy w' (some sb)/\SW sb a b l m tc w':=by
 have g0:w.cell? ⟨g,0,none⟩=some (.int .i64 a):=Ky hR 0 _ rfl;have g1:w.cell? ⟨g,1,none⟩=some (.int .i64 b):=Ky hR 1 _ rfl;have g2:w.cell? ⟨g,2,none⟩=some (.int .i64 l):=Ky hR 2 _ rfl;have hbd:=Rw hd
 have HD:Hid (∀W,Calls Vp.prog 58 #[.int .i64 a,.int .i64 b,.int .i64 l] W fun e w'=>e=.returned (.tuple #[.agg #[.int .i64 a,.int .i64 b,.int .i64 l],.bool true])/\Below W.heap.size W w'):=fun W=>by
  have h:=Xx a b l (by omega) (by omega) (by omega) W
  rw[hlow,Xw hd]at h
  exact h
 have HDE:=Aly Kj;have hgl:g<w.heap.size:=Aqy w _ g0;have HS:=Aly hS;clear hR hbd hd hlow hS
 go_enter Vp.func106,Tryz.ntmps106
 go_wp2
 have HDa:Hid (Calls Vp.prog 58 #[.int .i64 a,.int .i64 b,.int .i64 l] (w.alloc (.cells #[.int .i64 0,.int .i64 0,.int .i64 0] 24)).drew fun e w'=>e=.returned (.tuple #[.agg #[.int .i64 a,.int .i64 b,.int .i64 l],.bool true])/\A7 w w.heap.size #[.int .i64 0,.int .i64 0,.int .i64 0] 24 w') :=
  (HD.out _).mono (by rintro e w' ⟨rfl,h⟩;exact⟨rfl,(A7.new w _ _).step ((Amc _ _).drew.trans h)⟩)
 have HDb:Hid (Calls Vp.prog 58 #[.int .i64 a,.int .i64 b,.int .i64 l] w.drew fun e w'=>e=.returned (.tuple #[.agg #[.int .i64 a,.int .i64 b,.int .i64 l],.bool true])/\Below w.heap.size w w') :=
  (HD.out _).mono (by rintro e w' ⟨rfl,h⟩;exact⟨rfl,(Amc _ _).drew.trans h⟩)
 have q0:w.heap.size≠g:=Nat.ne_of_gt hgl
 go_region_held3 (fun w'=>w'.cell? ⟨g,0,none⟩=some (.int .i64 a)/\w'.cell? ⟨g,1,none⟩=some (.int .i64 b)/\w'.cell? ⟨g,2,none⟩=some (.int .i64 l)) (go_keep) (first
  |(go_at_call 58;with_reducible refine HDa.out.mono ?_;rintro e w' ⟨rfl,hx1⟩;have k0:=hx1.old.cell (p:=⟨g,0,none⟩) hgl;have k1:=hx1.old.cell (p:=⟨g,1,none⟩) hgl;have k2:=hx1.old.cell (p:=⟨g,2,none⟩) hgl;obtain⟨n0,n1,n2,f0,f1,f2⟩:=Ajl hx1.blk)
  |(go_at_call 58;with_reducible refine HDb.out.mono ?_;rintro e w' ⟨rfl,hb1⟩;have k0:=hb1.cell (p:=⟨g,0,none⟩) hgl;have k1:=hb1.cell (p:=⟨g,1,none⟩) hgl;have k2:=hb1.cell (p:=⟨g,2,none⟩) hgl;have q3:w'.heap.size≠g:=Nat.ne_of_gt (Am2 hgl hb1.size)))
 ·have HX:=Aly (A7.mk (w0:=w) (Aox w' (.cells #[.int .i64 a,.int .i64 b,.int .i64 l] 24)) (hb1.alloc hb1.size _));clear q0 k0 k1 k2 hb1 q3;generalize w'.alloc (.cells #[.int .i64 a,.int .i64 b,.int .i64 l] 24)=W at *;generalize w'.heap.size=nb at *;have hsw:=HS.out.step HX.out.old;obtain⟨e0,e1,e2⟩:=HX.out.C5;have s0:=hsw.c0;have s1:=hsw.c1;have s2:=hsw.c2;have f0:=hsw.fr 0;have f1:=hsw.fr 1;have f2:=hsw.fr 2;have HF:=Aly (A22 hsw HX.out.old a b l);clear hsw HX
  go_wp2_with (go_at_call 120;refine(HDE.out _).mono ?_;rintro e w'' ⟨rfl,hw⟩;rw[hw];clear hw)
  go_wp2
  go_ret
  exact⟨rfl,HF.out.1,HF.out.2⟩
 ·have HX:=Aly (hx1.A23 (Am0 _) (.int .i64 a) (.int .i64 b) (.int .i64 l));clear q0 k0 k1 k2 hx1 n0 n1 n2 f0 f1 f2;generalize ((w'.setCell ⟨w.heap.size,0,none⟩ (.int .i64 a)).setCell ⟨w.heap.size,1,none⟩ (.int .i64 b)).setCell ⟨w.heap.size,2,none⟩ (.int .i64 l)=W at *;have hnb:sb<w.heap.size:=HS.out.lt;generalize w.heap.size=nb at *;have hsw:=HS.out.step HX.out.old;obtain⟨e0,e1,e2⟩:=HX.out.C5;have s0:=hsw.c0;have s1:=hsw.c1;have s2:=hsw.c2;have f0:=hsw.fr 0;have f1:=hsw.fr 1;have f2:=hsw.fr 2;have HF:=Aly (A22 hsw HX.out.old a b l);clear hsw HX
  go_wp2_with (go_at_call 120;refine(HDE.out _).mono ?_;rintro e w'' ⟨rfl,hw⟩;rw[hw];clear hw)
  go_wp2
  go_ret
  exact⟨rfl,HF.out.1,HF.out.2⟩
end
end Go.Proofs.YtjaehldnlamgkaaGreatDoor
