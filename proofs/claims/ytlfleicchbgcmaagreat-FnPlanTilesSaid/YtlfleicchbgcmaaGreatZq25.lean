import Derived.Test.YtlfleicchbgcmaaGreatZq24
import Derived.Test.YtlfleicchbgcmaaGreatZq0
import Derived.Test.YtlfleicchbgcmaaGreatZqK
set_option linter.all false
set_option maxHeartbeats 16000000
set_option maxRecDepth 100000
namespace Go.Proofs.YtlfleicchbgcmaaGreat
section
open Go.RowKit Go.Sort Flo
def Z6 (L:List JT)(b:Int):Prop:=(b=-1/\∀t,t∈L->¬(0<cnt 0 t.ys/\t.deep<10))\/∃(i:Nat) (t:JT),b=i/\L[i]?=some t/\0<cnt 0 t.ys/\t.deep<10/\∀(j:Nat) u,L[j]?=some u->0<cnt 0 u.ys->u.deep<10->cnt 0 u.ys<=cnt 0 t.ys /\(j<i->cnt 0 u.ys<cnt 0 t.ys)
def Hd (L:List JT)(k:Nat)(b m:Int):Prop:=(b=-1/\m=0/\∀(j:Nat) t,j<k->L[j]?=some t->¬(0<cnt 0 t.ys/\t.deep<10))\/∃(i:Nat) (t:JT),b=i/\i<k/\L[i]?=some t/\m=(cnt 0 t.ys:Nat)/\0<cnt 0 t.ys/\t.deep<10/\∀(j:Nat) u,j<k->L[j]?=some u->0<cnt 0 u.ys->u.deep<10->cnt 0 u.ys<=cnt 0 t.ys /\(j<i->cnt 0 u.ys<cnt 0 t.ys)
theorem Hd.done {L:List JT}{b m:Int}(h:Hd L L.length b m):Z6 L b:=by
 rcases h with⟨h1,_,h2⟩ |⟨i,t,h1,_,h3,_,h5,h6,h7⟩
 ·exact .inl ⟨h1,fun t ht=>by
   obtain⟨j,hj⟩:=An8 ht
   exact h2 j t (Aii.1 hj).1 hj⟩
 ·exact .inr ⟨i,t,h1,h3,h5,h6,fun j u hj=>h7 j u (Aii.1 hj).1 hj⟩
theorem Hd.take {L:List JT}{k:Nat}{b m:Int}{t:JT}(h:Hd L k b m)(ht:L[k]?=some t)(h1:m <(cnt 0 t.ys:Nat))(h2:t.deep<10):Hd L (k+1) k (cnt 0 t.ys:Nat):=by
 have hm:0<=m:=by
  rcases h with⟨_,h,_⟩ |⟨i,u,_,_,_,h,_⟩<;>omega
 refine .inr ⟨k,t,rfl,by omega,ht,rfl,by omega,h2,fun j u hj hu g1 g2=>?_⟩
 rcases Alv j k with hjk|hjk
 ·rcases h with⟨_,_,h⟩ |⟨i,v,_,_,_,hmv,_,_,h⟩
  ·exact absurd ⟨g1,g2⟩ (h j u hjk hu)
  ·have:=(h j u hjk hu g1 g2).1
   omega
 ·have:j=k:=by omega
  subst this;rw[ht]at hu;injection hu with hu
  subst hu
  exact⟨Ai3 _,fun h=>by omega⟩
theorem Hd.skip {L:List JT}{k:Nat}{b m:Int}{t:JT}(h:Hd L k b m)(ht:L[k]?=some t)(h1:¬(m <(cnt 0 t.ys:Nat)/\t.deep<10)):Hd L (k+1) b m:=by
 rcases h with⟨h2,h3,h4⟩ |⟨i,v,h2,h3,h4,h5,h6,h7,h8⟩
 ·refine .inl ⟨h2,h3,fun j u hj hu g=>?_⟩
  rcases Alv j k with hjk|hjk
  ·exact h4 j u hjk hu g
  ·have:j=k:=by omega
   subst this;rw[ht]at hu;injection hu with hu
   subst hu
   exact h1 ⟨by omega,g.2⟩
 ·refine .inr ⟨i,v,h2,by omega,h4,h5,h6,h7,fun j u hj hu g1 g2=>?_⟩
  rcases Alv j k with hjk|hjk
  ·exact h8 j u hjk hu g1 g2
  ·have:j=k:=by omega
   subst this;rw[ht]at hu;injection hu with hu
   subst hu
   exact⟨by omega,fun h=>by omega⟩
structure PV (c:Hf)(bd m:Nat)(L:List Ai)(P:List ByteArray):Prop where
 zip:∃Z:List (ByteArray×Ai),P=Z.map (·.1)/\L=Z.map (·.2)/\∀q,q∈Z->L7 c q.1.toList q.2
 left:(P.map ByteArray.toList).Pairwise Left
 mm:m<=bd
 run:R7 c bd (bd-m) (P.map ByteArray.toList)
theorem PV.first {c:Hf}{bd:Nat}{t:Ai}(h:L7 c [] t):PV c bd 0 [t] [⟨#[]⟩]:=by
 have hn:(⟨#[]⟩:ByteArray).toList=[]:=by rw[toList_data]
 refine⟨⟨[(⟨#[]⟩,t)],rfl,rfl,fun q hq=>?_⟩,by simp,Aj9 _,fun r hr=>?_⟩
 ·obtain rfl:q=(⟨#[]⟩,t):=by simpa using hq
  show L7 c (⟨#[]⟩:ByteArray).toList t
  rw[hn]
  exact h
 ·rw[Ak4,Ald,hn]at hr
  exact⟨r,hr,Ef.refl r⟩
theorem L7.gd {c:Hf}{bs:List UInt8}{t:Ai}(h:L7 c bs t):(Dz c).Cd bs↔0<cnt 0 t.ys/\t.deep<10:=by
 unfold He.Cd;rw[<-h.deep,show(Dz c).opn bs=(cnt 0 t.ys:Nat)from Hi h 0]
 omega
theorem PV.pick {c:Hf}{bd m:Nat}{L:List Ai}{P:List ByteArray}(h:PV c bd m L P){k:Nat}{s:ByteArray}(hb:Z6 (L.map JT.of) k)(hs:P[k]?=some s):(Dz c).Q9 (P.map ByteArray.toList) s.toList:=by
 obtain⟨Z,rfl,rfl,hZ⟩:=h.zip
 rcases hb with⟨hb,_⟩ |⟨i,t,hb,ht,g1,g2,g3⟩
 ·omega
 ·obtain rfl:i=k:=by omega
  rw[Aiw]at hs;obtain⟨q,hq,rfl⟩:=Aif.1 hs;rw[Aiw,Aiw,hq]at ht;obtain rfl:JT.of q.2=t:=by simpa using ht
  have hqa:=hZ q (Aiu hq)
  refine⟨Aj5.2 ⟨q.1,Aj5.2 ⟨q,Aiu hq,rfl⟩,rfl⟩,hqa.gd.2 ⟨g1,g2⟩,fun p hp hg=>?_⟩
  obtain⟨s',hs',rfl⟩:=Aj5.1 hp;obtain⟨v,hv,rfl⟩:=Aj5.1 hs';obtain⟨j,hj⟩:=An8 hv;have hva:=hZ v hv;have hvg:=hva.gd.1 hg;have hle:=g3 j (JT.of v.2) (by rw[Aiw,Aiw,hj];rfl) hvg.1 hvg.2
  have e1:(Dz c).opn q.1.toList=(cnt 0 q.2.ys:Nat):=Hi hqa 0;have e2:(Dz c).opn v.1.toList=(cnt 0 v.2.ys:Nat):=Hi hva 0
  change cnt 0 v.2.ys<=cnt 0 q.2.ys /\(j<i->cnt 0 v.2.ys<cnt 0 q.2.ys)at hle
  unfold He.ahead;rw[e1,e2]
  rcases Am3 j i with hji|hji|hji
  ·exact .inr (.inl (by have:=hle.2 hji;omega))
  ·subst hji;rw[hq]at hj;injection hj with hj
   exact .inl (by rw[hj])
  ·rcases Alv (cnt 0 v.2.ys) (cnt 0 q.2.ys)with hc|hc
   ·exact .inr (.inl (by omega))
   ·refine .inr (.inr ⟨by omega,Left.less ?_⟩)
    have hl:=h.left;rw[Aml,List.pairwise_map,List.pairwise_iff_getElem]at hl;have h1:=(Aii.1 hq);have h2:=(Aii.1 hj);have:=hl i j h1.1 h2.1 hji;rw[h1.2,h2.2]at this
    exact this
theorem PV.fail {c:Hf}{bd m:Nat}{L:List Ai}{P:List ByteArray}(h:PV c bd m L P)(hm:m<bd){s:List UInt8}(hp:(Dz c).Q9 (P.map ByteArray.toList) s)(hs:¬(Dz c).sp s):(Dz c).Gk bd [[]] none:=by
 have e:bd-m=(bd-(m+1))+1:=by omega
 have hr:=h.run none (by rw[e];exact .fail _ _ s hp hs)
 obtain⟨r',h1,h2⟩:=hr
 cases r' with
 | none=>exact h1
 | some _=>exact h2.elim
theorem PV.ended {c:Hf}{bd m:Nat}{L:List Ai}{P:List ByteArray}(h:PV c bd m L P)(hz:m=bd\/Z6 (L.map JT.of) (-1)):∃G,(Dz c).Gk bd [[]] (some G) /\(P.map ByteArray.toList).Perm G:=by
 have h1:(Dz c).Gk (bd-m) (P.map ByteArray.toList) (some (P.map ByteArray.toList)):=by
  rcases hz with rfl|hz
  ·rw[Nat.sub_self];exact .zero _
  ·refine .stop _ _ fun q hq hg=>?_
   rcases hz with⟨_,hz⟩ |⟨i,_,e,_⟩
   ·obtain⟨Z,rfl,rfl,hZ⟩:=h.zip;obtain⟨s',hs',rfl⟩:=Aj5.1 hq;obtain⟨v,hv,rfl⟩:=Aj5.1 hs'
    exact hz (JT.of v.2) (Aj5.2 ⟨v.2,Aj5.2 ⟨v,hv,rfl⟩,rfl⟩) ((hZ v hv).gd.1 hg)
   ·omega
 obtain⟨r',h2,h3⟩:=h.run _ h1
 cases r' with
 | none=>exact h3.elim
 | some G=>exact⟨G,h2,h3⟩
theorem PV.next {c:Hf}{bd m:Nat}{L L4:List Ai}{P P4:List ByteArray}(h:PV c bd m L P)(hm:m<bd){k:Nat}{s:ByteArray}(hs:P[k]?=some s)(hp:(Dz c).Q9 (P.map ByteArray.toList) s.toList)(hsp:(Dz c).sp s.toList)
 (h4:P4.map ByteArray.toList=kids s.toList) (hl:L4.length=4) (ha:∀(j:Nat) t,L4[j]?=some t->j<4->L7 c (s.toList++[UInt8.ofNat (48+j)]) t):PV c bd (m+1) (L.take k++L4++L.drop (k+1)) (P.take k++P4++P.drop (k+1)):=by
 obtain⟨Z,rfl,rfl,hZ⟩:=h.zip;rw[Aiw]at hs;obtain⟨q,hq,rfl⟩:=Aif.1 hs;have hk:=(Aii.1 hq).1
 have eZ:Z=Z.take k++q :: Z.drop (k+1):=by
  have:=(Aii.1 hq).2;rw[<-this,List.getElem_cons_drop,An2]
 have eP:(Z.map (·.1)).map ByteArray.toList=((Z.map (·.1)).take k).map ByteArray.toList++q.1.toList ::((Z.map (·.1)).drop (k+1)).map ByteArray.toList:=by
  rw[<-List.map_take,<-List.map_drop]
  conv=>lhs;rw[eZ]
  simp
 have e':(((Z.map (·.1)).take k++P4 ++(Z.map (·.1)).drop (k+1)).map ByteArray.toList)=((Z.map (·.1)).take k).map ByteArray.toList++kids q.1.toList ++((Z.map (·.1)).drop (k+1)).map ByteArray.toList:=by
  rw[Aj1,Aj1,h4]
 have hP4:P4.length=4:=by
  have:=congrArg List.length h4;rw[Ajp]at this
  exact this
 refine⟨⟨Z.take k++P4.zip L4++Z.drop (k+1),?_,?_,fun v hv=>?_⟩,?_,hm,fun r hr=>?_⟩
 ·rw[Aj1,Aj1,List.map_take,List.map_drop]
  congr 2
  exact(List.map_fst_zip (by omega)).symm
 ·rw[Aj1,Aj1,List.map_take,List.map_drop]
  congr 2
  exact(List.map_snd_zip (by omega)).symm
 ·rcases Ajd.1 hv with hv|hv
  ·rcases Ajd.1 hv with hv|hv
   ·exact hZ v (Amc hv)
   ·obtain⟨j,hj⟩:=An8 hv;rw[List.getElem?_zip_eq_some]at hj;have hj4:j<4:=by have:=(Aii.1 hj.2).1;omega
    have h5:(P4.map ByteArray.toList)[j]?=some v.1.toList:=by rw[Aiw,hj.1];rfl
    rw[h4]at h5;have h6:=congrArg List.head? (Vo q.1.toList hj4);rw[List.head?_drop,h5]at h6;injection h6 with h6
    rw[h6]
    exact ha j v.2 hj.2 hj4
  ·exact hZ v (Amd hv)
 ·rw[e'];have:=h.left;rw[eP]at this
  exact A3d this
 ·rw[e']at hr
  refine h.run r ?_
  rw[show bd-m=(bd-(m+1))+1 by omega]
  refine .step _ _ _ q.1.toList r hp hsp ?_ hr
  have h7:((Z.map (·.1)).map ByteArray.toList).Perm (q.1.toList ::(((Z.map (·.1)).take k).map ByteArray.toList ++((Z.map (·.1)).drop (k+1)).map ByteArray.toList)):=by
   rw[eP]
   exact List.perm_middle
  have h8:=h7.erase q.1.toList;rw[List.erase_cons_head]at h8
  refine List.Perm.trans ?_ (Am9 _ h8.symm)
  rw[<-Al1]
  exact List.Perm.append_right _ An3
end
section
open Go.RowKit Flo
attribute [local go_sem ↓] Go.wp_at_zero Go.wp_at_succ
section
attribute [local go_sem] A7 A5
theorem A6w (B g cap:Nat)(L:List JT)(hl:L.length<=1000)(hW:∀t,t∈L->C8 t.size t.xs.length t.ys=true)(w:World)(hL:JIn B g L w) :
 Calls Vp.prog 20 #[.slice (some ⟨g,0,none⟩) L.length cap] w fun e w'=>(∃b:Int,e=.returned (.int .i64 b)/\-1<=b/\b<L.length/\Z6 L b)/\Below w.heap.size w w':=by
 obtain⟨n,hn⟩:∃n,L.length=n:=⟨_,rfl⟩;have HL:=Ai1 hL;have HW:=Ai1 hW;have HAT:Hid (∀k,k<n->∃t,L[k]?=some t):=fun k hk=>⟨_,Aig (by omega)⟩
 rw[hn]at hl ⊢;have HN:=Ai1 hn;clear hL hW hn
 go_enter Vp.func20,Tryz.ntmps20
 go_wp2
 go_loopw [3,4,5] (fun b m i wr=>∃(k:Nat) (b' m':Int),k<=n/\b=.int .i64 b'/\m=.int .i64 m'/\i=.int .i64 k/\Hid (-1<=b'/\b'<n/\Hd L k b' m')/\Hid (Below w.heap.size w wr)) (fun _ _ i _=>(n-intOf i).toNat)
 case atStart=>exact⟨0,-1,0,by omega,rfl,rfl,rfl,⟨by omega,by omega,.inl ⟨rfl,rfl,fun _ _ h _=>absurd h (Nat.not_lt_zero _)⟩⟩,Aik _ _⟩
 case round =>
  obtain⟨k,b',m',hk,rfl,rfl,rfl,HBB,HB⟩:=hrel
  by_cases hlt:k<n
  ·obtain⟨t,ht⟩:=HAT.out k hlt;have J:=HL.out.step HB.out;obtain⟨p0,p1,p2,p3,p4⟩:=J.Aa ht;have CO:=Ai1 (A6x t B wr (J.own t (Aiu ht)) (HW.out t (Aiu ht)));have HT:=Ai1 ht;have b5:(k:Int)<n:=by omega
   have b6:(0:Int)<=k:=by omega
   clear J ht;obtain⟨c,hc⟩:∃c,cnt 0 t.ys=c:=⟨_,rfl⟩;have HC:=Ai1 hc;rw[hc]at CO;clear hc
   go_wp2_with fail
   refine CO.out.mono ?_
   rintro e w1 ⟨rfl,hd⟩;have HB1:=Ai1 (HB.out.trans (hd.mono HB.out.size));obtain⟨-,p1,-⟩:=(HL.out.step HB1.out).Aa HT.out;clear hd CO HB p0 p2 p3 p4
   by_cases h1:m' <(c:Int)
   ·have e1:decide (m' <(c:Int))=true:=Aip h1
    by_cases h2:t.deep<10
    ·have e2:decide (t.deep<10)=true:=Aip h2
     have HX:Hid (Hd L (k+1) k c):=by
      have:=Hd.take HBB.out.2.2 HT.out (by rw[HC.out];exact h1) h2
      rwa [HC.out]at this
     clear h1 h2
     go_wp2
     go_roundw
     case rel=>exact⟨k+1,k,c,by omega,rfl,rfl,by go_num,⟨by omega,by omega,HX.out⟩,HB1⟩
     case measure=>simp[intOf];omega
    ·have e2:decide (t.deep<10)=false:=Aj0 h2;have HX:Hid (Hd L (k+1) b' m'):=Hd.skip HBB.out.2.2 HT.out (fun g=>h2 g.2)
     clear h1 h2
     go_wp2
     go_roundw
     case rel=>exact⟨k+1,b',m',by omega,rfl,rfl,by go_num,⟨HBB.out.1,HBB.out.2.1,HX.out⟩,HB1⟩
     case measure=>simp[intOf];omega
   ·have e1:decide (m' <(c:Int))=false:=Aj0 h1;have HX:Hid (Hd L (k+1) b' m'):=Hd.skip HBB.out.2.2 HT.out (fun g=>h1 (by rw[<-HC.out];exact g.1))
    clear h1
    go_wp2
    go_roundw
    case rel=>exact⟨k+1,b',m',by omega,rfl,rfl,by go_num,⟨HBB.out.1,HBB.out.2.1,HX.out⟩,HB1⟩
    case measure=>simp[intOf];omega
  ·have HX:Hid (Z6 L b'):=by
    have h1:=HBB.out.2.2;rw[show k=L.length by have:=HN.out;omega]at h1
    exact h1.done
   have HBN:Hid (b'<L.length):=by
    have h1:=HBB.out.2.1;rw[HN.out]
    exact h1
   go_wp2
   go_ret
   exact⟨⟨b',rfl,HBB.out.1,by have:=HBN.out;rwa [HN.out]at this,HX.out⟩,HB.out⟩
end
def Xc (w:World)(pv:Value)(L:List (Int×List Int))(n:Nat)(e:Ending)(w':World):Prop :=
 Below w.heap.size w w'/\∃(g cap:Nat),e=.returned (.agg #[pv,.slice (some ⟨g,0,none⟩) n cap,.int .i64 (H9 1 L),.int .i64 (H9 (-1) L),.int .i64 (H9 0 L)])/\w'.ownsRow w.heap.size 3 1 (.slice (some ⟨g,0,none⟩) n cap) n ((L.map fun t=>((cnt 0 t.2:Nat):Int)).map Av)
theorem Vu (B g cap:Nat)(L:List JT)(hl:L.length<=1000)(hW:∀t,t∈L->C8 t.size t.xs.length t.ys=true)(pa:Option Addr)(pn pc:Nat)(w:World)(hL:JIn B g L w) :
 Calls Vp.prog 22 #[.slice (some ⟨g,0,none⟩) L.length cap,.slice pa pn pc] w (Xc w (.slice pa pn pc) (L.map fun t=>(t.deep,t.ys)) L.length):=by
 obtain⟨n,hn⟩:∃n,L.length=n:=⟨_,rfl⟩;have HL:=Ai1 hL;have HW:=Ai1 hW;have HAT:Hid (∀k,k<n->∃t,L[k]?=some t):=fun k hk=>⟨_,Aig (by omega)⟩
 rw[hn]at hl ⊢;have HNN:=Ai1 hn;clear hL hW hn;obtain⟨iI,hiI,hzI0,hzI1,hzI2⟩:=Ajw Po
 go_enter Vp.func22,Tryz.ntmps22
 go_upto_region 3 with fail
 have HP:Hid (PM w w.heap.size (w.heap.size+1+1) (.slice pa pn pc) 0 [] (.slice (some ⟨w.heap.size+1,0,none⟩) 0 0) 0 0 0 (((w.alloc (.cells #[.slice none 0 0,.slice none 0 0,.int .i64 0,.int .i64 0,.int .i64 0] 29)).alloc (.cells #[] 3)).alloc (.cells #[.slice pa pn pc,.slice (some ⟨w.heap.size+1,0,none⟩) 0 0,.int .i64 0,.int .i64 0,.int .i64 0] 29))):=by
  have R:=((A8.new w #[.slice none 0 0,.slice none 0 0,.int .i64 0,.int .i64 0,.int .i64 0] 29).alloc (.cells #[] 3));have O:=(A8.new ((w.alloc (.cells #[.slice none 0 0,.slice none 0 0,.int .i64 0,.int .i64 0,.int .i64 0] 29)).alloc (.cells #[] 3)) #[.slice pa pn pc,.slice (some ⟨w.heap.size+1,0,none⟩) 0 0,.int .i64 0,.int .i64 0,.int .i64 0] 29).up R.old;have M:=Al6 (e:=3) (size:=1) (base:=w.heap.size) (w.alloc (.cells #[.slice none 0 0,.slice none 0 0,.int .i64 0,.int .i64 0,.int .i64 0] 29)) #[] 0 (by simp) (by decide) rfl
  simp only[Aim]at O M
  exact⟨O,R.alloc _,M.alloc _,by omega,Ai3 _,by omega⟩
 generalize ((w.alloc (.cells #[.slice none 0 0,.slice none 0 0,.int .i64 0,.int .i64 0,.int .i64 0] 29)).alloc (.cells #[] 3)).alloc (.cells #[.slice pa pn pc,.slice (some ⟨w.heap.size+1,0,none⟩) 0 0,.int .i64 0,.int .i64 0,.int .i64 0] 29)=w1 at *;generalize w.heap.size+1+1=ob at *;generalize w.heap.size+1=g0 at *
 go_loopw [6] (fun i wr=>∃(k g' cap':Nat) (p q r:Int),k<=n/\i=.int .i64 k/\Hid (PM w w.heap.size ob (.slice pa pn pc) k ((L.take k).map fun t=>((cnt 0 t.ys:Nat):Int)) (.slice (some ⟨g',0,none⟩) k cap') p q r wr)/\Hid (p=H9 1 ((L.take k).map fun t=>(t.deep,t.ys))/\q=H9 (-1) ((L.take k).map fun t=>(t.deep,t.ys))/\r=H9 0 ((L.take k).map fun t=>(t.deep,t.ys)))) (fun i _=>(n-intOf i).toNat)
 case atStart=>exact⟨0,g0,0,0,0,0,by omega,rfl,HP,rfl,rfl,rfl⟩
 case round =>
  clear HP;obtain⟨k,g',cap',p,q,r,hk,rfl,HP,HSU⟩:=hrel;obtain⟨ms,hms⟩:∃ms,ms=(L.take k).map fun t=>((cnt 0 t.ys:Nat):Int):=⟨_,rfl⟩
  have HMS:=Ai1 hms;rw[<-hms]at HP;clear hms
  by_cases hlt:k<n
  ·obtain⟨t,ht⟩:=HAT.out k hlt;have J:=HL.out.step HP.out.O.old;have T:=J.own t (Aiu ht);obtain⟨p0,p1,p2,p3,p4⟩:=J.Aa ht;have hlm:=T.lim;have CC:=K3 t.cx t.cy t.deep t.size T.bx T.by1 T.pl t.a1 t.a2 t.xs.length t.c1 t.c2 t.ys (by omega) wr T.s2 (HW.out t (Aiu ht))
   have hcq:Fy t.ys t.ys.length=#[.int .i64 (cnt 1 t.ys:Nat),.int .i64 (cnt (-1) t.ys:Nat),.int .i64 (cnt 0 t.ys:Nat)]:=by unfold Fy;rw[Amz]
   rw[hcq]at CC;replace CC:=Ai1 CC;obtain⟨sh1,hs1⟩:∃s:Nat,10-t.deep=(s:Int):=⟨(10-t.deep).toNat,by omega⟩
   obtain⟨sh2,hs2⟩:∃s:Nat,2 *(sh1:Int)=(s:Int):=⟨2*sh1,by omega⟩
   have hs3:sh2<=20:=by omega
   have HT:=Ai1 ht;have b5:(k:Int)<n:=by omega
   have b6:(0:Int)<=k:=by omega
   have hdp:0<=t.deep/\t.deep<=10:=⟨hlm.2.2.1,hlm.2.2.2.1⟩;clear J T hlm hcq ht;have HM1:Hid (∃m0 m1 m2:Nat,cnt 1 t.ys=m0/\cnt (-1) t.ys=m1/\cnt 0 t.ys=m2):=⟨_,_,_,rfl,rfl,rfl⟩;obtain⟨m0,m1,m2,hm0,hm1,hm2⟩:=HM1.out;rw[hm0,hm1,hm2]at CC;have HMM:=Ai1 (And.intro hm0 (And.intro hm1 hm2))
   have HSH:Hid ((2 *(10-t.deep)).toNat=sh2):=by
    show _=_
    omega
   have HTK:Hid (L.take (k+1)=L.take k++[t]):=by
    show _=_
    rw[List.take_add_one,HT.out];rfl
   clear HM1 hm0 hm1 hm2
   go_wp2_with fail
   refine CC.out.mono ?_
   rintro e w2 ⟨b,rfl,hb,hC⟩;have P2:=HP.out.step hC.old;obtain⟨-,q1,-⟩:=(HL.out.step P2.O.old).Aa HT.out;have HP2:=Ai1 P2;have HC2:=Ai1 (hC.up HP.out.O.old);have hbg:g'<b:=by have:=(HP.out.M.lt g' rfl).2;omega
   have hbo:ob<b:=by have:=HP.out.O.lt;omega
   clear P2 hC CC HP p0 p1 p2 p3 p4
   go_upto_region 7 with fail
   obtain⟨-,o1,o2,o3,o4⟩:=HP2.out.O.Aa;have c2:=HC2.out.cell 2 _ rfl;have hbl:=HC2.out.lt;have hol:=HP2.out.O.lt;have hbase:=HP2.out.O.old.size;have hww:w.heap.size<=w2.heap.size:=hbase
   go_cut []from 35 to 42 (fun wx=>∃g2 cap2,Hid (PM w w.heap.size ob (.slice pa pn pc) (k+1) (ms++[(m2:Int)]) (.slice (some ⟨g2,0,none⟩) (k+1) cap2) p q r wx)/\Hid (A8 w b #[.int .i64 m0,.int .i64 m1,.int .i64 m2] 3 wx))
   case first =>
    go_region_law (first
     |(refine step_append_lies _ (by rfl) _ _ _ (by rfl) w.heap.size 3 iI _ 1 8 (Vp.Di Tryz.underlying27) hiI hzI0 hzI1 hzI2 rfl (by omega) _ k (ms.map Av) (by rfl) (Ab (HP2.out.M.alloc _) ((Aq.refl _).drew.below _)) ⟨w2.heap.size,0,none⟩ 1 1 [Av m2] (by rfl) (by rfl) (World.news_of_block (cs:=#[Av m2]) (t:=3) (fr:=(0,0)) (Ak6 w2 _)) (by simp[Av,Value.oneCell']) (by omega) (by unfold maxLen;omega) (by omega) (by simp;omega) (w2.heap.size+1) (by simp) ?_
       intro g6 c6 w6 hown hgrow _ _;obtain⟨T6,k6,f6⟩:=((HP2.out.alloc (.cells #[.int .i64 m2] 3)).step ((Aq.refl _).drew.below _)).mark hown hgrow;have C6:=(((HC2.out.alloc (.cells #[.int .i64 m2] 3)).step ((Aq.refl _).drew.below _)).grown hgrow (by simp only[Value.ownBlock,ne_eq,Ajj];omega) (fun j hj=>(HP2.out.M.lt j hj).1)).other (p:=⟨ob,1,none⟩) HP2.out.ho (by simp;omega) (.slice (some ⟨g6,0,none⟩) (k+1) c6)
       have H6:=Ai1 (And.intro T6 C6);clear T6 C6 hown hgrow))
    all_goals
     go_wp2_with fail
     go_meet
     exact⟨g6,c6,H6⟩
   case rest =>
    obtain⟨g2,cap2,HP3,HC3⟩:=hcut;clear HP2 HC2 o1 o2 o3 o4 c2 hbl hol hww hbase q1 hbg
    have hwt:wrap64 (2^sh2)=wtD t.deep:=by
     unfold wtD;rw[HSH.out]
    have HWT:=Ai1 hwt;clear hwt;generalize wrap64 (2^sh2)=wt at *
    go_upto_region 8 with fail
    obtain⟨-,-,o2,o3,o4⟩:=HP3.out.O.Aa;have c0:=HC3.out.cell 0 _ rfl;have c1:=HC3.out.cell 1 _ rfl;have c2:=HC3.out.cell 2 _ rfl;have f2:=HP3.out.O.frozen 2;have f3:=HP3.out.O.frozen 3;have f4:=HP3.out.O.frozen 4;have hbl:=HC3.out.lt;have hol:=HP3.out.O.lt
    go_cut []from 43 to 51 (fun wx=>∃x:Int,x=wrap64 (p+wrap64 ((m0:Int)*wt))/\wx=(wc.setCell ⟨ob,2,none⟩ (.int .i64 x)).drew)
    case first =>
     go_region_with (fail)
     all_goals
      go_wp2_with fail
      go_meet
      exact⟨_,by rw[Ajq wt];simp only[IntWalk.i64_left],rfl⟩
    case rest =>
     obtain⟨x2,hx,rfl⟩:=hcut;have HX2:=Ai1 hx;clear hx;have hco:b≠ob:=by omega
     have HP4:=Ai1 ((HP3.out.Sx x2).step ((Aq.refl _).drew.below _));have HC4:=Ai1 ((HC3.out.other (p:=⟨ob,2,none⟩) HP3.out.ho hco (.int .i64 x2)).step ((Aq.refl _).drew.below _));clear HP3 HC3 o2 o3 o4 c0 c1 c2 f2 f3 f4 hbl hol
     go_upto_region 9 with fail
     generalize (wc.setCell ⟨ob,2,none⟩ (.int .i64 x2)).drew=wd at *;obtain⟨-,-,-,o3,o4⟩:=HP4.out.O.Aa;have c1:=HC4.out.cell 1 _ rfl;have c2:=HC4.out.cell 2 _ rfl;have f3:=HP4.out.O.frozen 3;have f4:=HP4.out.O.frozen 4;have hbl:=HC4.out.lt;have hol:=HP4.out.O.lt
     go_cut []from 52 to 60 (fun wx=>∃x:Int,x=wrap64 (q+wrap64 ((m1:Int)*wt))/\wx=(wd.setCell ⟨ob,3,none⟩ (.int .i64 x)).drew)
     case first =>
      go_region_with (fail)
      all_goals
       go_wp2_with fail
       go_meet
       exact⟨_,by rw[Ajq wt];simp only[IntWalk.i64_left],rfl⟩
     case rest =>
      obtain⟨x3,hx,rfl⟩:=hcut;have HX3:=Ai1 hx;clear hx;have HP5:=Ai1 ((HP4.out.Af8 x3).step ((Aq.refl _).drew.below _));have HC5:=Ai1 ((HC4.out.other (p:=⟨ob,3,none⟩) HP4.out.ho hco (.int .i64 x3)).step ((Aq.refl _).drew.below _));clear HP4 HC4 o3 o4 c1 c2 f3 f4 hbl hol
      go_upto_region 10 with fail
      generalize (wd.setCell ⟨ob,3,none⟩ (.int .i64 x3)).drew=we at *;obtain⟨-,-,-,-,o4⟩:=HP5.out.O.Aa;have c2:=HC5.out.cell 2 _ rfl;have f4:=HP5.out.O.frozen 4;have hbl:=HC5.out.lt;have hol:=HP5.out.O.lt;have HPF:=Ai1 (fun x:Int=>(HP5.out.A1p x).step (W':=(we.setCell ⟨ob,4,none⟩ (.int .i64 x)).drew) ((Aq.refl _).drew.below _))
      go_region_with (fail)
      all_goals
       clear o4 c2 f4 hbl hol HP5 HC5
       go_wp2
       go_roundw
       case rel =>
        refine⟨k+1,g2,cap2,x2,x3,wrap64 (r+wrap64 ((m2:Int)*wt)),by omega,by go_num,?_,?_⟩
        ·rw[HTK.out,Aj1,<-HMS.out,Ajq (m2:Int) wt,List.map_singleton,HMM.out.2.2]
         exact HPF.out _
        ·rw[HTK.out];simp only[Aj1,Ak4,Ald,Ws];rw[<-HSU.out.1,<-HSU.out.2.1,<-HSU.out.2.2,HMM.out.1,HMM.out.2.1,HMM.out.2.2,<-HWT.out]
         exact⟨HX2.out,HX3.out,rfl⟩
       case measure=>simp[intOf];omega
  ·obtain rfl:k=n:=by omega
   have hTK:L.take k=L:=Ajz (by have:=HNN.out;omega)
   obtain⟨q1,q2,q3⟩:=HSU.out;have hms:=HMS.out;rw[hTK]at q1 q2 q3 hms;have HQ:=Ai1 (And.intro q1 (And.intro q2 (And.intro q3 hms)));clear q1 q2 q3 hms hTK;obtain⟨o0,o1,o2,o3,o4⟩:=HP.out.O.Aa;obtain⟨r0,r1,r2,r3,r4⟩:=HP.out.R.Aa;obtain⟨f0,f1,f2,f3,f4⟩:=HP.out.R.E7;have hne:=HP.out.ne
   go_wp2
   refine Ai6 (v:=.agg #[.slice pa pn pc,.slice (some ⟨g',0,none⟩) k cap',.int .i64 p,.int .i64 q,.int .i64 r]) (by simp[results,Tryz.f22,go_sem,r0,r1,r2,r3,r4]) rfl ⟨I1 HP.out.O.old (Ai3 _) _ _ _ _ _,g',cap',?_,?_⟩
   ·rw[<-HQ.out.1,<-HQ.out.2.1,<-HQ.out.2.2.1]
   ·have e:(L.map (fun t:JT=>(t.deep,t.ys))).map (fun t:Int×List Int=>((cnt 0 t.2:Nat):Int))=L.map fun t:JT=>((cnt 0 t.ys:Nat):Int):=by rw[Aml];rfl
    rw[e,<-HQ.out.2.2.2]
    exact HP.out.fin _ _ _ _ _
end
section
open Go.RowKit Flo
attribute [local go_sem ↓] Go.wp_at_zero Go.wp_at_succ
attribute [local go_sem] A7 A5
theorem Jf.Ahn {w w':World}{cx cy d:Nat}{s A4:Int}{e:Ending}(h:Jf w cx cy d s A4 e w') :
 ∃(v:Value) (ok:Bool),e=.returned (.tuple #[v,.bool ok]) /\(ok=false->¬Gl cx cy d s) /\(ok=true->∃L,C3 w.heap.size L v w'/\L.length=4/\∀(k:Nat) t,L[k]?=some t->t.cx=(Bi cx cy d s k).1/\t.cy=(Bi cx cy d s k).2/\t.deep=(d:Int)+1/\t.size=s/\E4 A4 t)/\Below w.heap.size w w':=by
 rcases h with⟨⟨a0,c0,rfl,k,hk,hn⟩ |⟨L,v,rfl,h1,h2,h3⟩,hb⟩
 ·exact⟨_,false,rfl,fun _ hs=>hn (hs k hk),(fun h=>by cases h),hb⟩
 ·exact⟨v,true,rfl,(fun h=>by cases h),fun _=>⟨L,h1,h2,h3⟩,hb⟩
theorem PV.at' {c:Hf}{bd m:Nat}{L:List Ai}{P:List ByteArray}(h:PV c bd m L P){k:Nat}{s:ByteArray}{t:Ai}(hs:P[k]?=some s)(ht:L[k]?=some t):L7 c s.toList t:=by
 obtain⟨Z,rfl,rfl,hZ⟩:=h.zip;rw[Aiw]at hs ht;obtain⟨q,hq,rfl⟩:=Aif.1 hs;rw[hq]at ht;obtain rfl:q.2=t:=by simpa using ht
 exact hZ q (Aiu hq)
theorem A9m (s:ByteArray):[s ++(⟨#[48]⟩:ByteArray),s ++⟨#[49]⟩,s ++⟨#[50]⟩,s ++⟨#[51]⟩].map ByteArray.toList=kids s.toList:=by
 have h:∀x:UInt8,(s ++(⟨#[x]⟩:ByteArray)).toList=s.toList++[x]:=fun x=>by
  rw[toList_data,toList_data,ByteArray.data_append];simp
 unfold kids;simp only[Ak4,Ald,h]
theorem A1c {c:Hf}{w wz:World}{cx cy:Nat}{size A4:Int}{d0 bd m ln gp cp gz capz:Nat}{L:List Ai}{P:List ByteArray}{pz qz rz:Int}{lv':Value}(hMK:Uu cx cy d0 size)(hc:c=⟨size,A4,cx,cy,d0⟩)(hbd:bd<=30)(hV:PV c bd m L P)(hE:∃G,(Dz c).Gk bd [[]] (some G) /\(P.map ByteArray.toList).Perm G)(hln:L.length=ln)(h0:0<ln)(h1:ln<=91)
 (hK:PK w m L P lv' (.slice (some ⟨gp,0,none⟩) ln cp) wz) (hS:wz.ownsRow w.heap.size 9 1 (.slice (some ⟨gp,0,none⟩) ln cp) ln (P.map Value.string)) (hO:wz.ownsRow w.heap.size 3 1 (.slice (some ⟨gz,0,none⟩) ln capz) ln ((((L.map JT.of).map fun t=>(t.deep,t.ys)).map fun t=>((cnt 0 t.2:Nat):Int)).map Av))
 (hz:pz=H9 1 ((L.map JT.of).map fun t=>(t.deep,t.ys))/\qz=H9 (-1) ((L.map JT.of).map fun t=>(t.deep,t.ys))/\rz=H9 0 ((L.map JT.of).map fun t=>(t.deep,t.ys))) :
 I6 w cx cy d0 size A4 bd (fun L=>L.Pairwise Left) (.returned (.tuple #[.agg #[.slice (some ⟨gp,0,none⟩) ln cp,.slice (some ⟨gz,0,none⟩) ln capz,.int .i64 pz,.int .i64 qz,.int .i64 rz],.bool true]))
  (((((wz.setCell ⟨w.heap.size,0,none⟩ (.slice (some ⟨gp,0,none⟩) ln cp)).setCell ⟨w.heap.size,1,none⟩ (.slice (some ⟨gz,0,none⟩) ln capz)).setCell ⟨w.heap.size,2,none⟩ (.int .i64 pz)).setCell ⟨w.heap.size,3,none⟩ (.int .i64 qz)).setCell ⟨w.heap.size,4,none⟩ (.int .i64 rz)):=by
 subst hc;obtain⟨G,hG,hGp⟩:=hE
 have hlen:(P.map ByteArray.toList).length=L.length:=by
  obtain⟨Z,rfl,rfl,hZ⟩:=hV.zip;simp
 have hAt:∀(i:Nat) bs (t:Ai),(P.map ByteArray.toList)[i]?=some bs->L[i]?=some t->L7 ⟨size,A4,cx,cy,d0⟩ bs t:=fun i bs t e1 e2=>by
  rw[Aiw]at e1;obtain⟨s,hs,rfl⟩:=Aif.1 e1
  exact hV.at' hs e2
 have hj:(L.map JT.of).map (fun t=>(t.deep,t.ys))=L.map fun t=>(t.deep,t.ys):=by rw[Aml];rfl
 rw[hj]at hz hO;obtain⟨rfl,rfl,rfl⟩:=hz
 have hop:(P.map ByteArray.toList).map (Mc ⟨size,A4,cx,cy,d0⟩ 0)=(L.map fun t=>(t.deep,t.ys)).map fun t=>((cnt 0 t.2:Nat):Int):=by
  rw[A5d hlen hAt,Aml]
  rfl
 refine⟨I1 hK.R.old (Ai3 _) _ _ _ _ _,.inr ⟨d0,bd,P.map ByteArray.toList,G,rfl,rfl,hbd,hMK,⟨gp,cp,gz,capz,ln,P,?_,?_,?_,rfl,by rw[hlen,hln],h0,h1,fun s hs=>?_⟩,hV.left,hG,hGp⟩⟩
 ·rw[Qy hlen hAt,Qy hlen hAt,Qy hlen hAt]
 ·exact Gy hS hK.R (Ai3 _) (by decide) _ _ _ _ _
 ·rw[hop]
  exact Gy hO hK.R (Ai3 _) (by decide) _ _ _ _ _
 ·obtain⟨i,hi⟩:=An8 hs
  have hil:i<L.length:=by
   have:=(Aii.1 hi).1;rw[Ajp]at hlen
   omega
  have ht:L[i]?=some L[i]:=Aig hil;have e1:=(hV.at' hi ht).deep;have e2:=(Bj (hK.T.own _ (Aiu ht)).pl).2.1;have e3:s.toList.length=s.size:=by rw[toList_data];exact Ajn
  have e4:(Dz (⟨size,A4,cx,cy,d0⟩:Hf)).deep s.toList=(d0:Int)+s.toList.length:=rfl
  omega
theorem Ye (cx cy:Nat)(deep size A4 budget:Int)(hx:cx<4294967296)(hy:cy<4294967296)(w:World) :
 Calls Vp.prog 7 #[.complex .f32 cx cy,.int .i64 deep,.int .i64 size,.int .i64 A4,.int .i64 budget] w (I6 w cx cy deep size A4 budget (fun L=>L.Pairwise Left)):=by
 obtain⟨iT,hiT,hzT0,hzT1,hzT2⟩:=Ajw A9i;obtain⟨iS,hiS,hzS0,hzS1,hzS2⟩:=Ajw A53;have R:=A8.new w #[.slice none 0 0,.slice none 0 0,.int .i64 0,.int .i64 0,.int .i64 0] 29;have HR:=Ai1 R;clear R
 go_enter Vp.func7,Tryz.ntmps7
 go_wp2_with fail
 refine(Wp cx cy deep size A4 hx hy _).mono ?_
 rintro e w1 ⟨⟨x,y,d,s,a1,n1,c1,a2,n2,c2,ok,rfl,hM⟩,hb1⟩;have HR1:=Ai1 ((HR.out.step hb1).alloc (.cells #[.complex .f32 x y,.int .i64 d,.int .i64 s,.slice a1 n1 c1,.slice a2 n2 c2] 35));have X1:=(A8.new w1 #[.complex .f32 x y,.int .i64 d,.int .i64 s,.slice a1 n1 c1,.slice a2 n2 c2] 35).up (HR.out.step hb1).old;have HX1:=Ai1 X1;have hw1:w.heap.size<w1.heap.size:=(HR.out.step hb1).lt
 have hO:Hid (ok=true->∃t,([.complex .f32 x y,.int .i64 d,.int .i64 s,.slice a1 n1 c1,.slice a2 n2 c2]=t.cells)/\C9 w.heap.size t (w1.alloc (.cells #[.complex .f32 x y,.int .i64 d,.int .i64 s,.slice a1 n1 c1,.slice a2 n2 c2] 35))/\t.cx=cx/\t.cy=cy/\t.deep=deep/\t.size=size/\E4 A4 t):=fun hok=>by
  obtain⟨t,q1,q2,q3,q4,ht,hO,hG⟩:=hM.2 hok
  refine⟨t,?_,(hO.mono (B':=w.heap.size) (by simp)).step ((Aik _ _).alloc (Ai3 _) (.cells #[.complex .f32 x y,.int .i64 d,.int .i64 s,.slice a1 n1 c1,.slice a2 n2 c2] 35)),q1,q2,q3,q4,hG⟩
  injection ht with ht
  exact congrArg Array.toList ht
 have hNO:Hid (ok=false->¬Uu cx cy deep size):=fun hok=>(hM.1 hok).1
 clear hM hb1 HR X1
 go_upto_region 2 with fail
 generalize w1.alloc (.cells #[.complex .f32 x y,.int .i64 d,.int .i64 s,.slice a1 n1 c1,.slice a2 n2 c2] 35)=wa at *;generalize w1.heap.size=tb at *;obtain⟨r0,r1,r2,r3,r4⟩:=HR1.out.Aa;obtain⟨f0,f1,f2,f3,f4⟩:=HR1.out.E7
 cases ok with
 | false =>
   have HNOK:Hid (¬Je cx cy deep size A4 budget):=fun⟨_,_,_,_,_,_,h,_⟩=>hNO.out rfl h
   clear HX1 hO hNO
   go_wp2
   exact Ai6 (v:=.tuple #[.agg #[.slice none 0 0,.slice none 0 0,.int .i64 0,.int .i64 0,.int .i64 0],.bool false]) (by simp[results,Tryz.f7,go_sem,r0,r1,r2,r3,r4]) rfl ⟨I1 HR1.out.old (Ai3 _) _ _ _ _ _,.inl ⟨rfl,HNOK.out⟩⟩
 | true =>
   obtain⟨t,ht,hO',q1,q2,q3,q4,hgood⟩:=hO.out rfl;obtain⟨d0,s0,hd0,hs0,-,-,-,-⟩:=hgood.n
   have hMK:Uu cx cy deep size:=by
    obtain⟨d,s,a,b,g1,g2,g3,-,-⟩:=hgood;rw[<-q1,<-q2,<-q3,<-q4]
    exact⟨d,s,a,b,g1,g2,g3⟩
   have HMKP:=Ai1 hMK;have hd1:deep=d0:=q3.symm.trans hd0;subst hd1;obtain⟨c,hc⟩:∃c:Hf,c=⟨size,A4,cx,cy,d0⟩:=⟨_,rfl⟩;have HCC:=Ai1 hc
   have hat:L7 c [] t:=by
    rw[hc]
    exact⟨⟨d0,hd0,q1,q2,rfl⟩,q4,hgood⟩
   have HAT:=Ai1 hat;clear hMK hat hc hgood q1 q2 q3 q4 hd0 hs0 hNO;have HTC:=Ai1 ht;have HO:=Ai1 hO';obtain⟨x0,x1,x2,x3,x4⟩:=HX1.out.Aa;clear ht hO' hO
   go_wp2_with fail
   refine(C7 _ _ _ _).mono ?_
   rintro e w2 ⟨rfl,rfl⟩
   cases hin:Gf budget 0 30 with
   | false =>
     have HNOK:Hid (¬Je cx cy d0 size A4 budget):=fun⟨_,bd,_,_,e,h,_⟩=>by
      unfold Gf at hin;simp only[Bool.and_eq_false_iff,Amu]at hin
      omega
     clear hin
     go_wp2
     exact Ai6 (v:=.tuple #[.agg #[.slice none 0 0,.slice none 0 0,.int .i64 0,.int .i64 0,.int .i64 0],.bool false]) (by simp[results,Tryz.f7,go_sem,r0,r1,r2,r3,r4]) rfl ⟨I1 HR1.out.old (Ai3 _) _ _ _ _ _,.inl ⟨rfl,HNOK.out⟩⟩
   | true =>
     have hbud:0<=budget/\budget<=30:=by
      unfold Gf at hin
      simpa only[Aia,Aiv]using hin
     obtain⟨bd,rfl⟩:=Ajc hbud.1;have hbd:bd<=30:=by omega
     clear hin hbud
     go_upto_region 6 with fail
     have HK:Hid (PK w 0 [t] [⟨#[]⟩] (.slice (some ⟨wa.heap.size,0,none⟩) 1 1) (.slice (some ⟨wa.heap.size+1,0,none⟩) 1 1) ((wa.alloc (.cells #[.complex .f32 x y,.int .i64 d,.int .i64 s,.slice a1 n1 c1,.slice a2 n2 c2] 35)).alloc (.cells #[.string ⟨#[]⟩] 9))):=by
      have hs:=HR1.out.old.size;have T:=Al6 (e:=35) (size:=5) (base:=w.heap.size) wa #[.complex .f32 x y,.int .i64 d,.int .i64 s,.slice a1 n1 c1,.slice a2 n2 c2] 1 hs (by decide) rfl
      have S:=Al6 (e:=9) (size:=1) (base:=w.heap.size) (wa.alloc (.cells #[.complex .f32 x y,.int .i64 d,.int .i64 s,.slice a1 n1 c1,.slice a2 n2 c2] 35)) #[.string ⟨#[]⟩] 1 (by simp;omega) (by decide) rfl
      rw[Aim]at S
      refine⟨(HR1.out.alloc _).alloc _,⟨?_,fun u hu=>?_⟩,S,?_,by simp,by simp⟩
      ·have e:Ac [t]=[.complex .f32 x y,.int .i64 d,.int .i64 s,.slice a1 n1 c1,.slice a2 n2 c2]:=by
        rw[HTC.out];show t.cells++[]=_;rw[Aly]
       rw[e]
       exact T.alloc _
      ·obtain rfl:u=t:=by simpa using hu
       exact(HO.out.step ((Aik _ _).alloc (Ai3 _) _)).step ((Aik _ _).alloc (Ai3 _) _)
      ·intro u hu;obtain rfl:u=⟨#[]⟩:=by simpa using hu
       exact Ai3 _
     generalize (wa.alloc (.cells #[.complex .f32 x y,.int .i64 d,.int .i64 s,.slice a1 n1 c1,.slice a2 n2 c2] 35)).alloc (.cells #[.string ⟨#[]⟩] 9)=wb at *;generalize wa.heap.size+1=gp0 at *;generalize wa.heap.size=g0 at *;clear HR1 HX1 HO HTC r0 r1 r2 r3 r4 f0 f1 f2 f3 f4 x0 x1 x2 x3 x4 hw1
     go_wp2
     go_loopw [14,15,16] (fun lv pv i wr=>∃(m ln g cap gp cp:Nat) (L:List Ai) (P:List ByteArray),m<=bd/\i=.int .i64 m/\lv=.slice (some ⟨g,0,none⟩) ln cap/\pv=.slice (some ⟨gp,0,none⟩) ln cp/\Hid (L.length=ln)/\Hid (PV c bd m L P)/\Hid (PK w m L P (.slice (some ⟨g,0,none⟩) ln cap) (.slice (some ⟨gp,0,none⟩) ln cp) wr)) (fun _ _ i _=>(bd-intOf i).toNat)
     case atStart=>exact⟨0,1,g0,1,gp0,1,[t],[⟨#[]⟩],by omega,rfl,rfl,rfl,rfl,PV.first HAT.out,HK⟩
     case round =>
      clear HK;obtain⟨m,ln,g,cap,gp,cp,L,P,hm,rfl,rfl,rfl,HLN,HV,HK⟩:=hrel;have hln:ln<=91:=by have:=HK.out.lim;have:=HLN.out;omega
      have hln1:1<=ln:=by have:=HK.out.pos;have:=HLN.out;omega
      by_cases hlt:m<bd
      ·have CB:=A6w w.heap.size g cap (L.map JT.of) (by rw[Ajp,HLN.out];omega) (fun u hu=>by
        obtain⟨v,hv,rfl⟩:=Aj5.1 hu
        exact(HK.out.T.own v hv).Adf) wr (C3.jin (by rw[HLN.out];exact HK.out.T))
       rw[Ajp,HLN.out]at CB;replace CB:=Ai1 CB
       go_wp2_with fail
       refine CB.out.mono ?_
       rintro e w3 ⟨⟨b,rfl,hb1,hb2,hbj⟩,hd⟩;have HBJ:=Ai1 hbj;clear hbj;have HK3:=Ai1 (HK.out.step hd);clear CB hd HK
       by_cases hneg:b<0
       ·have e1:decide (b<0)=true:=Aip hneg;have HEN:=Ai1 (HV.out.ended (.inr (by have:=HBJ.out;rwa [show b=-1 by omega]at this)))
        clear hneg hb1 hb2
        have CT:=Vu w.heap.size g cap (L.map JT.of) (by rw[Ajp,HLN.out];omega) (fun u hu=>by
         obtain⟨v,hv,rfl⟩:=Aj5.1 hu
         exact(HK3.out.T.own v hv).Adf) (some ⟨gp,0,none⟩) ln cp w3 (C3.jin (by rw[HLN.out];exact HK3.out.T))
        rw[Ajp,HLN.out]at CT;unfold Xc at CT;obtain⟨pz,hp1⟩:∃pz,pz=H9 1 ((L.map JT.of).map fun t=>(t.deep,t.ys)):=⟨_,rfl⟩
        obtain⟨qz,hp2⟩:∃qz,qz=H9 (-1) ((L.map JT.of).map fun t=>(t.deep,t.ys)):=⟨_,rfl⟩
        obtain⟨rz,hp3⟩:∃rz,rz=H9 0 ((L.map JT.of).map fun t=>(t.deep,t.ys)):=⟨_,rfl⟩
        rw[<-hp1,<-hp2,<-hp3]at CT;have hpz:=Ai1 (And.intro hp1 (And.intro hp2 hp3));clear hp1 hp2 hp3;replace CT:=Ai1 CT
        go_wp2_with fail
        refine CT.out.mono ?_
        rintro e wz ⟨hdz,gz,capz,rfl,hoz⟩;have HKZ:=Ai1 (HK3.out.step hdz);have HOZ:=Ai1 (Fo hoz HK3.out.R.old.size);obtain⟨r0,r1,r2,r3,r4⟩:=HKZ.out.R.Aa;obtain⟨f0,f1,f2,f3,f4⟩:=HKZ.out.R.E7;have hSZ:=HKZ.out.S;rw[HLN.out]at hSZ;have HSZ:=Ai1 hSZ;clear hSZ CT hdz hoz
        go_wp2
        exact Ai6 (v:=.tuple #[.agg #[.slice (some ⟨gp,0,none⟩) ln cp,.slice (some ⟨gz,0,none⟩) ln capz,.int .i64 pz,.int .i64 qz,.int .i64 rz],.bool true]) (by simp[results,Tryz.f7,go_sem,r0,r1,r2,r3,r4]) rfl (A1c HMKP.out HCC.out hbd HV.out HEN.out HLN.out (by omega) (by omega) HKZ.out HSZ.out HOZ.out hpz.out)
       ·obtain⟨k,rfl⟩:=Ajc (show 0<=b by omega)
        have e1:decide ((k:Int)<0)=false:=Aj0 hneg;have hk:k<ln:=by omega
        obtain⟨tk,htk⟩:∃tk,L[k]?=some tk:=⟨_,Aig (by have:=HLN.out;omega)⟩
        have TK:=HK3.out.T.own tk (Aiu htk);obtain⟨p0,p1,p2,p3,p4⟩:=C3.cells (L:=L) (by rw[HLN.out];exact HK3.out.T) htk
        have hpl:=TK.pl;obtain⟨dk,hdk⟩:=Ajc (Bj hpl).1;rw[hdk]at p1 hpl;obtain⟨sk,hsk⟩:∃sk,P[k]?=some sk:=⟨_,Aig (by have:=HLN.out;have:=HK3.out.Ahs;omega)⟩
        have hatk:L7 c sk.toList tk:=HV.out.at' hsk htk;have HATK:=Ai1 hatk;have HPK:=Ai1 (HV.out.pick HBJ.out hsk);obtain⟨dk',hdk',hspl⟩:=A3w A4 tk w.heap.size w3 TK (by have:=hatk.Cd;rwa [HCC.out]at this)
        obtain rfl:dk=dk':=by omega
        have HDK:=Ai1 hdk'
        have CS:Hid (Calls Vp.prog 21 #[.agg #[.complex .f32 tk.cx tk.cy,.int .i64 dk,.int .i64 tk.size,.slice (some ⟨tk.gs,0,none⟩) tk.n tk.cs,.slice (some ⟨tk.gm,0,none⟩) tk.n tk.cm],.int .i64 A4] w3 (Jf w3 tk.cx tk.cy dk tk.size A4)):=by
         have:=hspl;rw[show tk.cells.toArray=#[.complex .f32 tk.cx tk.cy,.int .i64 tk.deep,.int .i64 tk.size,.slice (some ⟨tk.gs,0,none⟩) tk.n tk.cs,.slice (some ⟨tk.gm,0,none⟩) tk.n tk.cm]from rfl,hdk']at this
         exact this
        clear hspl hatk hdk';have hmlt:=hlt;clear hneg TK htk hpl hdk hb1 hb2
        go_wp2_with fail
        refine CS.out.mono ?_
        intro e w4 h4;obtain⟨v4,ok,rfl,hno,hok,hd4⟩:=h4.Ahn;have HK4:=Ai1 (HK3.out.step hd4);clear CS h4 p0 p1 p2 p3 p4
        cases ok with
        | false =>
          obtain⟨r0,r1,r2,r3,r4⟩:=HK4.out.R.Aa;obtain⟨f0,f1,f2,f3,f4⟩:=HK4.out.R.E7
          have HNOK:Hid (¬Je cx cy d0 size A4 bd):=fun⟨d0',bd',G,e1,e2,_,_,h⟩=>by
           obtain rfl:d0=d0':=by omega
           obtain rfl:bd=bd':=by omega
           rw[<-HCC.out]at h;have hsz:tk.size=c.s:=HATK.out.size
           exact(HV.out.fail hmlt HPK.out (fun hs=>hno rfl (by have:=(HATK.out.sp HDK.out).1 hs;rwa [<-hsz]at this))).det (Amp _) h
          clear hok hd4 hno
          go_wp2
          exact Ai6 (v:=.tuple #[.agg #[.slice none 0 0,.slice none 0 0,.int .i64 0,.int .i64 0,.int .i64 0],.bool false]) (by simp[results,Tryz.f7,go_sem,r0,r1,r2,r3,r4]) rfl ⟨I1 HK4.out.R.old (Ai3 _) _ _ _ _ _,.inl ⟨rfl,HNOK.out⟩⟩
        | true =>
          obtain⟨L4,h4,hl4,hv4s⟩:=hok rfl;have hszk:tk.size=c.s:=HATK.out.size;have hmostk:c.A4=A4:=by rw[HCC.out]
          have hsplk:Gl tk.cx tk.cy dk c.s:=fun j hj=>by
           obtain⟨u,hu⟩:∃u,L4[j]?=some u:=⟨_,Aig (by omega)⟩
           obtain⟨q1,q2,q3,q4,q5⟩:=hv4s j u hu;obtain⟨a1,a2,a3,a4,b1,b2,b3,-,-⟩:=q5;have hmm:Uu u.cx u.cy u.deep u.size:=⟨a1,a2,a3,a4,b1,b2,b3⟩;rw[q1,q2,q3,q4,hszk]at hmm
           exact hmm
          have HV4:Hid (PV c bd (m+1) (L.take k++L4++L.drop (k+1)) (P.take k++[sk ++⟨#[48]⟩,sk ++⟨#[49]⟩,sk ++⟨#[50]⟩,sk ++⟨#[51]⟩]++P.drop (k+1))) :=
           HV.out.next hmlt hsk HPK.out ((HATK.out.sp HDK.out).2 hsplk) (A9m sk) hl4 fun j u hu hj=>by
            obtain⟨q1,q2,q3,q4,q5⟩:=hv4s j u hu;rw[hszk]at q1 q2 q4;rw[<-hmostk]at q5
            exact HATK.out.kid HDK.out hsplk hj q1 q2 q3 q4 q5
          clear hno hv4s hsplk hszk hmostk;obtain⟨g4,cap4,hv4,-,hcap4⟩:=ownsRow_form h4.row (by omega)
          rw[hl4]at hv4 hcap4;subst hv4;have H4:=Ai1 (h4.mono (B':=w.heap.size) (by have:=HK3.out.R.old.size;omega))
          have HL4:=Ai1 hl4;clear hok h4 hd4 HK3;obtain⟨sz,hsz⟩:∃sz,sk.size=sz:=⟨_,rfl⟩;have hss:sz<=30:=by have:=HK4.out.sz sk (Aiu hsk);omega
          have hcs:w4.cell? ⟨gp,k,none⟩=some (.string sk):=by
           have S4:=HK4.out.S;rw[HLN.out]at S4;have h1:=S4.cellAt k (by omega)
           rw[h1,Aiw,hsk];rfl
          have HSK:=Ai1 hsk;have b5:(k:Int)<ln:=by omega
          have b6:(0:Int)<=k:=by omega
          have A0:=fun W:World=>Amx (P:=Vp.prog) W sk ⟨#[48]⟩ (by rw[hsz];show sz+1<=_;omega)
          have A1:=fun W:World=>Amx (P:=Vp.prog) W sk ⟨#[49]⟩ (by rw[hsz];show sz+1<=_;omega)
          have A2:=fun W:World=>Amx (P:=Vp.prog) W sk ⟨#[50]⟩ (by rw[hsz];show sz+1<=_;omega)
          have A3:=fun W:World=>Amx (P:=Vp.prog) W sk ⟨#[51]⟩ (by rw[hsz];show sz+1<=_;omega)
          have HZS:Hid (∀c:UInt8,(sk ++⟨#[c]⟩:ByteArray).size<=m+1):=fun c=>by
           have h1:=HK4.out.sz sk (Aiu hsk);rw[ByteArray.size_append]
           show sk.size+1<=_
           omega
          have HZ4:=Ai1 (And.intro (HZS.out 48) (And.intro (HZS.out 49) (And.intro (HZS.out 50) (HZS.out 51))));generalize sk ++⟨#[48]⟩=s0 at *;generalize sk ++⟨#[49]⟩=s1 at *;generalize sk ++⟨#[50]⟩=s2 at *;generalize sk ++⟨#[51]⟩=s3 at *;clear hl4 hsk hsz HZS
          go_upto_region 14 with fail
          go_region_held3 (fun w'=>w'.cell? ⟨gp,k,none⟩=some (.string sk)) (go_keep) (fail)
          have X5:=(A8.new w4 #[.string s0,.string s1,.string s2,.string s3] 9).step ((Aq.refl _).drew.below _);have hd5:Below w4.heap.size w4 (w4.alloc (.cells #[.string s0,.string s1,.string s2,.string s3] 9)).drew:=X5.old;have HK5:=Ai1 (HK4.out.step hd5);have H45:=Ai1 (H4.out.step hd5);have HX5:=Ai1 X5;clear X5 hd5 HK4 H4 hcs A0 A1 A2 A3
          go_upto_region 15 with fail
          generalize (w4.alloc (.cells #[.string s0,.string s1,.string s2,.string s3] 9)).drew=w5 at *;generalize w4.heap.size=nb at *;have hcap:ln<=cap:=Qu (by have:=HLN.out;omega) HK5.out.T.row
          have hcp:ln<=cp:=Qu (by have:=HLN.out;omega) HK5.out.S
          have i1:(k:Int)<=cap:=by omega
          have i2:(k:Int)+1<=ln:=by omega
          have i3:(0:Int) <=(k:Int)+1:=by omega
          have i4:(ln:Int)<=cap:=by omega
          have i5:IntKind.i64.wrap ((k:Int)+1)=(k:Int)+1:=Ajh _ (by omega)
          have j1:(k:Int)<=cp:=by omega
          have j4:(ln:Int)<=cp:=by omega
          by_cases hcz:cap=k+1
          case' pos =>
           have HLE0:Hid (ln<=k+1):=(by omega:ln<=k+1)
           replace hcz:k+1=cap:=hcz.symm;have HB1:Hid ((Ac (L.take k)).length=k*5 /\(∀W,Below w5.heap.size w5 W->∀j u,(Ac (L.take k))[j]?=some u->W.cell? ((⟨g,0,none⟩:Addr).add j)=some u)/\∀u∈Ac (L.take k),u.oneCell'=true):=A5z HK5.out.T HLN.out (by omega)
           have HB2:Hid ((Ac L4).length=4*5 /\(∀W,Below w5.heap.size w5 W->∀j u,(Ac L4)[j]?=some u->W.cell? ((⟨g4,0,none⟩:Addr).add j)=some u)/\∀u∈Ac L4,u.oneCell'=true):=Ab9 H45.out HL4.out;have HB3:Hid ((Ac (L.drop (k+1))).length=0*5 /\(∀W,Below w5.heap.size w5 W->∀j u,(Ac (L.drop (k+1)))[j]?=some u->W.cell? ((⟨g,0,none⟩:Addr).add j)=some u)/\∀u∈Ac (L.drop (k+1)),u.oneCell'=true):=(by have e0:ln-(k+1)=0:=(by omega);have h0:=Fu (g:=g) (w:=w5) HLN.out HLE0.out;rwa [e0]at h0)
          case' neg =>
           have HB1:Hid ((Ac (L.take k)).length=k*5 /\(∀W,Below w5.heap.size w5 W->∀j u,(Ac (L.take k))[j]?=some u->W.cell? ((⟨g,0,none⟩:Addr).add j)=some u)/\∀u∈Ac (L.take k),u.oneCell'=true):=A5z HK5.out.T HLN.out (by omega)
           have HB2:Hid ((Ac L4).length=4*5 /\(∀W,Below w5.heap.size w5 W->∀j u,(Ac L4)[j]?=some u->W.cell? ((⟨g4,0,none⟩:Addr).add j)=some u)/\∀u∈Ac L4,u.oneCell'=true):=Ab9 H45.out HL4.out;have HB3:Hid ((Ac (L.drop (k+1))).length=(ln-(k+1))*5 /\(∀W,Below w5.heap.size w5 W->∀j u,(Ac (L.drop (k+1)))[j]?=some u->W.cell? ((⟨g,(k+1)*5,none⟩:Addr).add j)=some u)/\∀u∈Ac (L.drop (k+1)),u.oneCell'=true):=Ad8 HK5.out.T HLN.out (by omega)
          all_goals
           go_region_law (first
            |(refine Cp _ (by rfl) _ _ _ (by rfl) w5.heap.size 35 iT _ 5 72 (Vp.Di Tryz.underlying56) hiT hzT0 hzT1 hzT2 rfl (by omega) _ 0 [] (by rfl) (Ab (Al6 (e:=35) (size:=5) (base:=w5.heap.size) w5 #[] 0 (Ai3 _) (by decide) rfl) ((Aq.refl _).drew.below _)) ⟨g,0,none⟩ k cap (Ac (L.take k)) (by rfl) HB1.out.1 (HB1.out.2.1 _ (((Aik _ _).alloc (Ai3 _) _).drew)) HB1.out.2.2 (by unfold maxLen;omega) (by omega) (by simp) ?_
              intro v1 w6 hown1 hg1;have B1:=Ai1 ((((Aik w5.heap.size w5).alloc (Ai3 _) (.cells #[] 35)).drew).grown hg1 (by simp) (fun j hj=>by simp only[Value.ownBlock,Ajj]at hj;omega)))
            |(refine Cp _ (by rfl) _ _ _ (by rfl) w5.heap.size 35 iT _ 5 72 (Vp.Di Tryz.underlying56) hiT hzT0 hzT1 hzT2 rfl (by omega) _ (0+k) _ (by rfl) hown1 ⟨g4,0,none⟩ 4 cap4 (Ac L4) (by rfl) HB2.out.1 (HB2.out.2.1 _ B1.out) HB2.out.2.2 (by unfold maxLen;omega) (by omega) B1.out.size ?_
              intro v2 w7 hown2 hg2;have B2:=Ai1 (B1.out.grown hg2 B1.out.size (fun j hj=>(hown1.lt j hj).1)))
            |(refine Cp _ (by rfl) _ _ _ (by rfl) w5.heap.size 35 iT _ 5 72 (Vp.Di Tryz.underlying56) hiT hzT0 hzT1 hzT2 rfl (by omega) _ (0+k+4) _ (by rfl) hown2 _ _ _ (Ac (L.drop (k+1))) (by rfl) HB3.out.1 (HB3.out.2.1 _ B2.out) HB3.out.2.2 (by unfold maxLen;omega) (by omega) B2.out.size ?_
              intro lv9 wl hown3 hg3;have B3:=Ai1 (B2.out.grown hg3 B2.out.size (fun j hj=>(hown2.lt j hj).1))
              have O3:=Ai1 hown3;clear hown1 hown2 hown3 hg1 hg2 hg3 B1 B2))
           all_goals
            have O4:=O3.out
            try rw[show 0+k+4+0=0+k+4 +(ln-(k+1)) by omega]at O4
            have HT8:Hid (C3 w.heap.size (L.take k++L4++L.drop (k+1)) lv9 wl):=Afo HK5.out.T H45.out B3.out HLN.out HL4.out (by omega) (by have:=HK5.out.R.old.size;omega) O4
            have HLL:Hid ((L.take k++L4++L.drop (k+1)).length=ln+3):=by
             show _=_
             rw[Aje,Aje,Akf,List.length_drop,HL4.out,HLN.out,Akm (by omega)];omega
            have HSR:Hid (wl.ownsRow w.heap.size 9 1 (.slice (some ⟨gp,0,none⟩) ln cp) ln (P.map Value.string)):=by
             have:=Ab HK5.out.S B3.out
             rwa [HLN.out]at this
            have HRR:=Ai1 (HK5.out.R.step B3.out);have HSZ:=Ai1 HK5.out.sz;have HLIM:Hid (ln<=1+3*m):=by have:=HK5.out.lim;rwa [HLN.out]at this
            have HX8:=Ai1 (HX5.out.step B3.out);have hrow:=HT8.out.row;rw[HLL.out]at hrow;obtain⟨gl,capl,hv3,-,-⟩:=ownsRow_form hrow (by omega)
            clear O4 hrow HB1 HB2 HB3 HK5 HX5 H45 B3 O3 hcz;subst hv3
            go_upto_region 16 with fail
            by_cases hcq:cp=k+1
            case' pos =>
             have HLE:Hid (ln<=k+1):=(by omega:ln<=k+1)
             replace hcq:k+1=cp:=hcq.symm;have HB1:Hid (((P.map Value.string).take k).length=k*1 /\(∀W,Below wl.heap.size wl W->∀j u,((P.map Value.string).take k)[j]?=some u->W.cell? ((⟨gp,0,none⟩:Addr).add j)=some u)/\∀u∈(P.map Value.string).take k,u.oneCell'=true):=A5u HSR.out (by omega) (Tj P)
             have HB2:Hid (([.string s0,.string s1,.string s2,.string s3]:List Value).length=4*1 /\(∀W,Below wl.heap.size wl W->∀j u,([.string s0,.string s1,.string s2,.string s3]:List Value)[j]?=some u->W.cell? ((⟨nb,0,none⟩:Addr).add j)=some u)/\∀u∈([.string s0,.string s1,.string s2,.string s3]:List Value),u.oneCell'=true):=A5t HX8.out;have HB3:Hid (((P.map Value.string).drop (k+1)).length=0*1 /\(∀W,Below wl.heap.size wl W->∀j u,((P.map Value.string).drop (k+1))[j]?=some u->W.cell? ((⟨gp,0,none⟩:Addr).add j)=some u)/\∀u∈(P.map Value.string).drop (k+1),u.oneCell'=true):=(by have e0:ln-(k+1)=0:=(by omega);have h0:=Afh (g:=gp) (w:=wl) (show(P.map Value.string).length=ln by have:=HSR.out.1;rwa [Alq]at this) HLE.out;rwa [e0]at h0)
            case' neg =>
             have HB1:Hid (((P.map Value.string).take k).length=k*1 /\(∀W,Below wl.heap.size wl W->∀j u,((P.map Value.string).take k)[j]?=some u->W.cell? ((⟨gp,0,none⟩:Addr).add j)=some u)/\∀u∈(P.map Value.string).take k,u.oneCell'=true):=A5u HSR.out (by omega) (Tj P)
             have HB2:Hid (([.string s0,.string s1,.string s2,.string s3]:List Value).length=4*1 /\(∀W,Below wl.heap.size wl W->∀j u,([.string s0,.string s1,.string s2,.string s3]:List Value)[j]?=some u->W.cell? ((⟨nb,0,none⟩:Addr).add j)=some u)/\∀u∈([.string s0,.string s1,.string s2,.string s3]:List Value),u.oneCell'=true):=A5t HX8.out;have HB3:Hid (((P.map Value.string).drop (k+1)).length=(ln-(k+1))*1 /\(∀W,Below wl.heap.size wl W->∀j u,((P.map Value.string).drop (k+1))[j]?=some u->W.cell? ((⟨gp,k+1,none⟩:Addr).add j)=some u)/\∀u∈(P.map Value.string).drop (k+1),u.oneCell'=true):=Ad2 HSR.out (by omega) (Tj P)
            all_goals
             go_region_law (first
              |(refine Cp _ (by rfl) _ _ _ (by rfl) wl.heap.size 9 iS _ 1 16 (Vp.Di Tryz.underlying26) hiS hzS0 hzS1 hzS2 rfl (by omega) _ 0 [] (by rfl) (Ab (Al6 (e:=9) (size:=1) (base:=wl.heap.size) wl #[] 0 (Ai3 _) (by decide) rfl) ((Aq.refl _).drew.below _)) ⟨gp,0,none⟩ k cp ((P.map Value.string).take k) (by rfl) HB1.out.1 (HB1.out.2.1 _ (((Aik _ _).alloc (Ai3 _) _).drew)) HB1.out.2.2 (by unfold maxLen;omega) (by omega) (by simp) ?_
                intro v1 w6 hown1 hg1;have B1:=Ai1 ((((Aik wl.heap.size wl).alloc (Ai3 _) (.cells #[] 9)).drew).grown hg1 (by simp) (fun j hj=>by simp only[Value.ownBlock,Ajj]at hj;omega)))
              |(refine Cp _ (by rfl) _ _ _ (by rfl) wl.heap.size 9 iS _ 1 16 (Vp.Di Tryz.underlying26) hiS hzS0 hzS1 hzS2 rfl (by omega) _ (0+k) _ (by rfl) hown1 ⟨nb,0,none⟩ 4 4 ([.string s0,.string s1,.string s2,.string s3]) (by rfl) HB2.out.1 (HB2.out.2.1 _ B1.out) HB2.out.2.2 (by unfold maxLen;omega) (by omega) B1.out.size ?_
                intro v2 w7 hown2 hg2;have B2:=Ai1 (B1.out.grown hg2 B1.out.size (fun j hj=>(hown1.lt j hj).1)))
              |(refine Cp _ (by rfl) _ _ _ (by rfl) wl.heap.size 9 iS _ 1 16 (Vp.Di Tryz.underlying26) hiS hzS0 hzS1 hzS2 rfl (by omega) _ (0+k+4) _ (by rfl) hown2 _ _ _ ((P.map Value.string).drop (k+1)) (by rfl) HB3.out.1 (HB3.out.2.1 _ B2.out) HB3.out.2.2 (by unfold maxLen;omega) (by omega) B2.out.size ?_
                intro v3 w8 hown3 hg3;have B3:=Ai1 (B2.out.grown hg3 B2.out.size (fun j hj=>(hown2.lt j hj).1))
                have O3:=Ai1 hown3;clear hown1 hown2 hown3 hg1 hg2 hg3 B1 B2))
             all_goals
              have hpl:P.length=ln:=by have:=HSR.out.1;simpa using this
              have hs8:=HRR.out.old.size;have HT9:=Ai1 (HT8.out.step B3.out);have HR9:=Ai1 (HRR.out.step B3.out)
              have hS9:w8.ownsRow w.heap.size 9 1 v3 (ln+3) ((P.take k++[s0,s1,s2,s3]++P.drop (k+1)).map Value.string):=by
               have h1:=Fo O3.out (show w.heap.size<=wl.heap.size from hs8)
               first|rw[show 0+k+4+0=ln+3 by have:=HLE.out;omega]at h1|rw[show 0+k+4 +(ln-(k+1))=ln+3 by omega]at h1
               rw[Aj1,Aj1,List.map_take,List.map_drop]
               exact h1
              obtain⟨g9,cap9,rfl,-,-⟩:=ownsRow_form hS9 (by omega)
              have HS9:=Ai1 hS9;clear hS9 HB1 HB2 HB3 HSR HX8 B3 O3 HT8 HRR
              go_wp2
              go_roundw
              case rel=>exact⟨m+1,ln+3,gl,capl,g9,cap9,L.take k++L4++L.drop (k+1),P.take k++[s0,s1,s2,s3]++P.drop (k+1),by omega,by go_num,rfl,rfl,HLL.out,HV4.out,⟨HR9.out,by rw[<-HLL.out]at HT9 ⊢;exact HT9.out,by rw[HLL.out];exact HS9.out,fun u hu=>by
               rcases Ajd.1 hu with hu|hu
               ·rcases Ajd.1 hu with hu|hu
                ·have:=HSZ.out u (Amc hu);omega
                ·simp only[Ajf,Aja,Akv]at hu
                 rcases hu with rfl|rfl|rfl|rfl
                 ·exact HZ4.out.1
                 ·exact HZ4.out.2.1
                 ·exact HZ4.out.2.2.1
                 ·exact HZ4.out.2.2.2
               ·have:=HSZ.out u (Amd hu);omega,by rw[HLL.out];have:=HLIM.out;omega,by rw[HLL.out];omega⟩⟩
              case measure=>simp[intOf];omega
      ·skip
       have HEN:=Ai1 (HV.out.ended (.inl (by omega)))
       have CT:=Vu w.heap.size g cap (L.map JT.of) (by rw[Ajp,HLN.out];omega) (fun u hu=>by
        obtain⟨v,hv,rfl⟩:=Aj5.1 hu
        exact(HK.out.T.own v hv).Adf) (some ⟨gp,0,none⟩) ln cp wr (C3.jin (by rw[HLN.out];exact HK.out.T))
       rw[Ajp,HLN.out]at CT;unfold Xc at CT;obtain⟨pz,hp1⟩:∃pz,pz=H9 1 ((L.map JT.of).map fun t=>(t.deep,t.ys)):=⟨_,rfl⟩
       obtain⟨qz,hp2⟩:∃qz,qz=H9 (-1) ((L.map JT.of).map fun t=>(t.deep,t.ys)):=⟨_,rfl⟩
       obtain⟨rz,hp3⟩:∃rz,rz=H9 0 ((L.map JT.of).map fun t=>(t.deep,t.ys)):=⟨_,rfl⟩
       rw[<-hp1,<-hp2,<-hp3]at CT;have hpz:=Ai1 (And.intro hp1 (And.intro hp2 hp3));clear hp1 hp2 hp3;replace CT:=Ai1 CT
       go_wp2_with fail
       refine CT.out.mono ?_
       rintro e wz ⟨hdz,gz,capz,rfl,hoz⟩;have HKZ:=Ai1 (HK.out.step hdz);have HOZ:=Ai1 (Fo hoz HK.out.R.old.size);obtain⟨r0,r1,r2,r3,r4⟩:=HKZ.out.R.Aa;obtain⟨f0,f1,f2,f3,f4⟩:=HKZ.out.R.E7;have hSZ:=HKZ.out.S;rw[HLN.out]at hSZ;have HSZ:=Ai1 hSZ;clear hSZ CT hdz hoz
       go_wp2
       exact Ai6 (v:=.tuple #[.agg #[.slice (some ⟨gp,0,none⟩) ln cp,.slice (some ⟨gz,0,none⟩) ln capz,.int .i64 pz,.int .i64 qz,.int .i64 rz],.bool true]) (by simp[results,Tryz.f7,go_sem,r0,r1,r2,r3,r4]) rfl (A1c HMKP.out HCC.out hbd HV.out HEN.out HLN.out (by omega) (by omega) HKZ.out HSZ.out HOZ.out hpz.out)
end
end Go.Proofs.YtlfleicchbgcmaaGreat
