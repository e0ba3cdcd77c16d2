import Derived.Test.YtjaehldnlamgkaaGreatDoorXe30
import Derived.OpenVars
import Derived.Lib.SmallJoins
import Derived.Conc.LeavingOf
import Derived.Lib.LaidTab
import Derived.Test.YtjaehldnlamgkaaGreatDoorCards
import Derived.Test.YtjaehldnlamgkaaGreatDoorTie
import Derived.OpenShut
import Derived.Deep.DeepHandedRow
import Derived.LaidSub
import Derived.LaidMore
import Derived.LaidEql
import Derived.LaidHandle
import Derived.SevenTiedAt
import Derived.Test.YtjaehldnlamgkaaGreatDoorXe0
import Derived.Test.YtjaehldnlamgkaaGreatDoorXeK
set_option linter.all false
set_option maxHeartbeats 16000000
set_option maxRecDepth 100000
namespace Go.Proofs.YtjaehldnlamgkaaGreatDoor
section
open Go.RowKit Flo
def Qj (nb:Nat)(n a b l:Int):Array Value:=List.toArray (undef :: undef :: .bool false :: .pointer (some ⟨nb,0,none⟩) :: undef :: undef :: undef :: undef :: undef :: undef :: undef :: undef :: undef :: .int .i64 n :: .bool false :: undef :: .agg #[.int .i64 a,.int .i64 b,.int .i64 l] :: undef :: undef :: undef :: undef :: undef :: undef :: undef :: undef :: undef :: undef :: undef :: undef :: undef :: undef :: undef :: undef :: undef :: undef :: undef :: undef :: undef :: undef :: undef :: undef :: undef :: undef :: undef :: undef :: undef :: undef :: undef :: undef :: undef :: undef :: undef :: undef :: undef :: undef :: undef :: undef :: undef :: undef :: undef :: undef :: undef :: undef :: undef :: undef :: undef :: undef :: undef :: undef :: undef :: undef :: undef :: undef :: undef :: undef :: undef :: undef :: undef :: undef :: undef :: undef :: undef :: undef :: undef :: undef :: undef :: undef :: undef :: undef :: undef :: undef :: undef :: undef :: undef :: undef :: undef :: undef :: undef :: undef :: undef :: undef :: undef :: undef :: undef :: undef :: undef :: undef :: undef :: undef :: undef :: [])
theorem Afa (nb:Nat)(n a b l:Int)(w:World)(hd:Br a b l=false)(ha:a.natAbs<=4611686018427387904)(hb:b.natAbs<=4611686018427387904)(hl:l.natAbs<=1000)
 (hC:w.heap[nb]?=some (.cells #[.int .i64 a,.int .i64 b,.int .i64 l] 24 (0,0))):Calls Vp.prog 3 (Qj nb n a b l) w fun e w'=>e=.returned (.bool true)/\Below w.heap.size w w':=by
 have HC:Hid (∀W,Below w.heap.size w W->W.cell? ⟨nb,0,none⟩=some (.int .i64 a)/\W.cell? ⟨nb,1,none⟩=some (.int .i64 b)/\W.cell? ⟨nb,2,none⟩=some (.int .i64 l)):=fun W h=>by
  have e:=(h.block nb (Alx.1 hC).1).trans hC
  exact⟨by rw[Amb e];rfl,by rw[Amb e];rfl,by rw[Amb e];rfl⟩
 obtain⟨c0,c1,c2⟩:=HC.out w (Amc _ _);have HI:=Aly (A12 a b l hd ha hb);have HS:=Aly (A29 a b l hd ha hb hl);have HW:=Aly (Hl 0 0 (by decide +kernel) (by decide +kernel))
 clear hd ha hb hl hC;unfold Qj
 go_enter Vp.func3,(Vp.Yg.trans Tryz.ntmps3)
 simp only[Vp.Ow]
 go_wp2_with fail
 refine(HI.out _).mono ?_
 rintro e w1 ⟨rfl,hb1⟩;obtain⟨d0,d1,d2⟩:=HC.out w1 hb1;have HB1:=Aly hb1;clear hb1 HI c0 c1 c2
 go_wp2_with fail
 refine(HS.out _).mono ?_
 rintro e w2 ⟨rfl,hb2⟩;have HB2:=Aly (HB1.out.trans (hb2.mono HB1.out.size));clear hb2 HS d0 d1 d2 HB1
 go_wp2_with (go_at_call 8;refine(HW.out _).mono ?_;rintro e w' ⟨rfl,hw⟩;rw[hw];clear hw)
 go_ret
 exact⟨rfl,HB2.out⟩
theorem Aag {nb:Nat}{a b l:Int}{w:World}(hC:w.heap[nb]?=some (.cells #[.int .i64 a,.int .i64 b,.int .i64 l] 24 (0,0))):Hid (∀W,Below w.heap.size w W->W.cell? ⟨nb,0,none⟩=some (.int .i64 a)/\W.cell? ⟨nb,1,none⟩=some (.int .i64 b)/\W.cell? ⟨nb,2,none⟩=some (.int .i64 l)):=fun W h=>by
 have e:=(h.block nb (Alx.1 hC).1).trans hC
 exact⟨by rw[Amb e];rfl,by rw[Amb e];rfl,by rw[Amb e];rfl⟩
theorem Acw (nb:Nat)(n:Int)(w:World)
 (hC:w.heap[nb]?=some (.cells #[.int .i64 1073741823,.int .i64 7,.int .i64 60] 24 (0,0))):Calls Vp.prog 3 (Qj nb n 1073741823 7 60) w fun e w'=>e=.returned (.bool true)/\Below w.heap.size w w':=by
 have HC:=Aag hC;obtain⟨c0,c1,c2⟩:=HC.out w (Amc _ _);obtain⟨x1,x2,x3,x4,x5,x6,x7,x8⟩:=Agt;have HI:=Aly (K0 1073741823 7 60 Up Uq (by decide) x1 x2)
 have HS:=Aly (Q7 1073741823 7 60 Up Uq (by decide) x3 x4)
 have HW:=Aly (Hl Up Uq x5 x6);have HF:=Aly (A7m Up Uq x7 x8);generalize Up=u at *;generalize Uq=v at *;clear x1 x2 x3 x4 x5 x6 x7 x8 hC;unfold Qj
 go_enter Vp.func3,(Vp.Yg.trans Tryz.ntmps3)
 simp only[Vp.Ow]
 go_wp2_with fail
 refine(HI.out _).mono ?_
 rintro e w1 ⟨rfl,hb1⟩;obtain⟨d0,d1,d2⟩:=HC.out w1 hb1;have HB1:=Aly hb1;clear hb1 HI c0 c1 c2
 go_wp2_with fail
 refine(HS.out _).mono ?_
 rintro e w2 ⟨rfl,hb2⟩;have HB2:=Aly (HB1.out.trans (hb2.mono HB1.out.size));obtain⟨f0,f1,f2⟩:=HC.out w2 HB2.out;clear hb2 HS d0 d1 d2 HB1
 go_wp2_with (first |(go_at_call 8;refine(HW.out _).mono ?_;rintro e w' ⟨rfl,hw⟩;rw[hw];clear hw) |(go_at_call 9;refine(HF.out _).mono ?_;rintro e w' ⟨rfl,hw⟩;rw[hw];clear hw))
 go_ret
 exact⟨rfl,HB2.out⟩
theorem Aen (ns:List Int):10 ∉ [97,116]++32 :: Ae ns:=by
 intro h
 rcases Aq9.1 h with h|h
 ·exact absurd h (by decide)
 ·rcases An7.1 h with h|h
  ·exact absurd h (by decide)
  ·exact Ot _ h
theorem Ad8 {a b:Int}{l u v p q:Nat}{k n:Int}(X:Adg a b l u v p q k n)(w:World)(htab:Lib.TabIs Vp.prog w "internal/strconv.uint64pow10" .u64 Lib.pow10Tab)(hgs:3<w.heap.size) :
 Calls Vp.prog 11 #[.string ⟨(Au (Lx a b l)).toArray⟩] w fun e w'=>(∃q:Nat,q<=64/\e=.returned (.string ⟨(Fp (O6 a b l k n) 3++[111,112,101,110,32]++Ae [(q:Int)]++[10]).toArray⟩))/\Below w.heap.size w w':=by
 have h3:=I2 X.ha X.hb (l:=(l:Int)) (by have:=X.hl;omega)
 have h2:=Oq X.hk X.hn
 refine Ady (Lx a b l) (O6 a b l k n) w (by simp[Au,Lx];omega) (fun t ht=>?_) (fun j=>?_) (tm0 w) (by show 3<=600;omega) (A4r X w htab hgs)
 ·simp only[Lx,An7,An6,Ap5]at ht
  rcases ht with rfl|rfl|rfl
  ·exact Aen _
  ·decide
  ·decide
 ·match j with
  | 0=>simp[O6]
  | 1=>simp only[O6];omega
  | 2=>simp only[O6];omega
  | _+3=>simp[O6]
theorem Xt {F:Nat}{args:Array Value}{v:Value}{w:World}(h:∀W,Calls Vp.prog F args W fun e w'=>e=.returned v/\Below W.heap.size W w'):Hid (∀W,Below w.heap.size w W->Calls Vp.prog F args W fun e w'=>e=.returned v/\Below w.heap.size w w') :=
 fun W hW=>(h W).mono fun _ _ ⟨h1,h2⟩=>⟨h1,hW.trans (h2.mono hW.size)⟩
theorem Jc (x y z:List UInt8)(hz:x++y=z)(h:z.length<=100000)(W:World):(Op.stringOp .add ⟨x.toArray⟩ ⟨y.toArray⟩).run Vp.prog W=.ok (.string ⟨z.toArray⟩) W:=by
 subst hz;rw[Amy]at h;rw[run_string_add_sum W _ _ (by show x.toArray.size+y.toArray.size<=_;simp;omega)]
 congr 2
theorem Ns (l:List UInt8):(⟨l.toArray⟩:ByteArray).size=l.length:=by simp[ByteArray.size]
theorem Ph (l:List UInt8)(i j:Nat):(⟨l.toArray⟩:ByteArray).extract i j=⟨((l.drop i).take (j-i)).toArray⟩:=by
 apply ByteArray.ext
 apply Array.toList_inj.1
 rw[Lib.extract_data]
theorem A48 (P Q:List UInt8)(hP:P.length+Q.length<=100000)(hT:∃P0,P=P0++[10])(hQ:10 ∉ Q) :
 ∃(RES LST FIN:ByteArray) (cc:Int) (z pp:Nat),(⟨(P++Q++[10]).toArray⟩:ByteArray)=RES/\RES.size=z+2/\pp<=z/\z<=200000/\RES.data.toList.getD pp 0=10 /\(∀j,pp<j->j<=z->RES.data.toList.getD j 0≠10) /\
  RES.extract (pp+1) RES.size=LST /\(RES.size:Int)-LST.size=cc /\(0<=cc/\cc<=RES.size/\RES.extract 0 cc.toNat=FIN/\FIN=⟨P.toArray⟩):=by
 obtain⟨P0,rfl⟩:=hT;rw[Amy,Aqt]at hP
 refine⟨_,_,⟨(P0++[10]).toArray⟩,_,P0.length+Q.length,P0.length,rfl,?_,by omega,by omega,?_,?_,rfl,rfl,?_⟩
 ·rw[Ns];simp only[Amy,Aqt]
  omega
 ·simp[List.getD_eq_getElem?_getD,Ao4]
 ·intro j h1 h2;simp only[List.getD_eq_getElem?_getD,Ao4];rw[List.getElem?_append_right (by omega),show j-P0.length=(j-P0.length-1)+1 by omega,List.singleton_append,Anv,List.getElem?_append_left (by omega)]
  obtain⟨c,hc⟩:∃c,Q[j-P0.length-1]?=some c:=⟨Q[j-P0.length-1]'(by omega),Amw _⟩
  rw[hc];intro e;simp only[Aqn]at e;subst e
  exact hQ (Aob hc)
 ·have e1:((⟨(P0++[10]++Q++[10]).toArray⟩:ByteArray).size:Int)-((⟨(P0++[10]++Q++[10]).toArray⟩:ByteArray).extract (P0.length+1) (⟨(P0++[10]++Q++[10]).toArray⟩:ByteArray).size).size=((P0.length+1:Nat):Int):=by
   rw[Ph,Ns,Ns];simp only[Amy,Aqt,List.length_take,List.length_drop]
   omega
  rw[e1,Anc,Ph,Ns]
  refine⟨by omega,by simp only[Amy,Aqt];omega,?_,rfl⟩
  rw[Ao4,List.drop_zero,Nat.sub_zero,List.take_left' (by simp)]
theorem A5e (nb:Nat)(N a b:Int)(l u v p q:Nat)(k n:Int)(X:Adg a b l u v p q k n)(hu:Yc a l=some u)(hv:Yc b l=some v)(nu:nan .f64 u=false)(nv:nan .f64 v=false)(w:World)(htab:Lib.TabIs Vp.prog w "internal/strconv.uint64pow10" .u64 Lib.pow10Tab)(hgs:3<w.heap.size)
 (hC:w.heap[nb]?=some (.cells #[.int .i64 a,.int .i64 b,.int .i64 l] 24 (0,0))):Calls Vp.prog 3 (Qj nb N a b l) w fun e w'=>e=.returned (.bool true)/\Below w.heap.size w w':=by
 have HC:=Aag hC;obtain⟨c0,c1,c2⟩:=HC.out w (Amc _ _);have HI:=Aly (K0 a b l u v X.val X.eu X.ev);have HS:=Aly (Q7 a b l u v X.val hu hv);have HW:=Aly (Hl u v nu nv);have la:=X.ha;have lb:=X.hb;have ll:=X.hl;have DA:=Xt (w:=w) (I1 a (by omega) (by omega))
 have DB:=Xt (w:=w) (I1 b (by omega) (by omega))
 have DC:=Xt (w:=w) (I1 (l:Int) (by omega) (by omega))
 have lk:=X.hk;have ln:=X.hn;have DK:=Aly (I1 k (by omega) (by omega))
 have DN:=Aly (I1 n (by omega) (by omega))
 have ia:=E4 a la;have ib:=E4 b lb;have ic:=E4 (l:Int) (by omega)
 have g1:decide (9999<a)=false:=by simp;omega
 have g2:decide (a < -9999)=false:=by simp;omega
 have g3:decide (9999<b)=false:=by simp;omega
 have g4:decide (b < -9999)=false:=by simp;omega
 have J1:=Jc (Lib.itoa a) [32] _ rfl (by simp;omega)
 have J2:=Jc (Lib.itoa a++[32]) (Lib.itoa b) _ rfl (by simp;omega)
 have J3:=Jc (Lib.itoa a++[32]++Lib.itoa b) [32] _ rfl (by simp;omega)
 have J4:=Jc (Lib.itoa a++[32]++Lib.itoa b++[32]) (Lib.itoa (l:Int)) (Ae [a,b,(l:Int)]) (by rw[Dz,Dz,F9];simp) (by have:=I2 la lb (l:=(l:Int)) (by omega);omega)
 have lj:=I2 la lb (l:=(l:Int)) (by omega)
 have ik:=E4 k lk;have iN:=E4 n ln;clear nu nv hC hu hv la lb ll ia ib ic;generalize (⟨(Lib.itoa a).toArray⟩:ByteArray)=sa at *;generalize (⟨(Lib.itoa b).toArray⟩:ByteArray)=sb at *;generalize (⟨(Lib.itoa (l:Int)).toArray⟩:ByteArray)=sl at *;generalize (⟨(Lib.itoa a++[32]).toArray⟩:ByteArray)=s1 at *;generalize (⟨(Lib.itoa a++[32]++Lib.itoa b).toArray⟩:ByteArray)=s2 at *;generalize (⟨(Lib.itoa a++[32]++Lib.itoa b++[32]).toArray⟩:ByteArray)=s3 at *;unfold Qj
 go_enter Vp.func3,(Vp.Yg.trans Tryz.ntmps3)
 simp only[Vp.Ow]
 go_wp2_with fail
 refine(HI.out _).mono ?_
 rintro e w1 ⟨rfl,hb1⟩;obtain⟨d0,d1,d2⟩:=HC.out w1 hb1;have HB1:=Aly hb1;clear hb1 HI c0 c1 c2
 go_wp2_with fail
 refine(HS.out _).mono ?_
 rintro e w2 ⟨rfl,hb2⟩;have HB2:=Aly (HB1.out.trans (hb2.mono HB1.out.size));obtain⟨f0,f1,f2⟩:=HC.out w2 HB2.out;clear hb2 HS d0 d1 d2 HB1
 go_upto_region 10 with(go_at_call 8;refine(HW.out _).mono ?_;rintro e w' ⟨rfl,hw⟩;rw[hw];clear hw)
 clear HW g1 g2 g3 g4;have f:=HB2.out
 go_region_held3 (fun w'=>Below w.heap.size w w'/\w'.cell? ⟨nb,0,none⟩=some (.int .i64 a)/\w'.cell? ⟨nb,1,none⟩=some (.int .i64 b)/\w'.cell? ⟨nb,2,none⟩=some (.int .i64 l)) (((first|dsimp only|skip);first |(refine⟨?_,?_,?_,?_⟩<;>first|assumption |(exact Below.drew (by assumption))|go_keep) |(with_reducible assumption) |(with_reducible exact Below.drew (by assumption))|go_keep)) (first
  |(go_at_call 10;with_reducible refine(DA.out _ (by first|assumption|exact Aqv (by assumption))).mono ?_;rintro e w' ⟨rfl,hb⟩;obtain⟨k0,k1,k2⟩:=HC.out w' hb)
  |(go_at_call 10;with_reducible refine(DB.out _ (by first|assumption|exact Aqv (by assumption))).mono ?_;rintro e w' ⟨rfl,hb⟩;obtain⟨k0,k1,k2⟩:=HC.out w' hb)
  |(go_at_call 10;with_reducible refine(DC.out _ (by first|assumption|exact Aqv (by assumption))).mono ?_;rintro e w' ⟨rfl,hb⟩;obtain⟨k0,k1,k2⟩:=HC.out w' hb))
 all_goals
  have HB3:=Aly hb;clear f hb k0 k1 k2 J1 J2 J3 J4 DA DB DC;have J5:=Jc [97,116,32] (Ae [a,b,(l:Int)]) _ rfl (by simp;omega)
  have J6:=Jc ([97,116,32]++Ae [a,b,(l:Int)]) [10,119,104,101,114,101,10,101,115,99,97,112,101,10] (Au (Lx a b l)) (by simp[Au,Lx]) (by simp[Au,Lx];omega)
  have HEX:=Aly (Ad8 X _ (Cv HB3.out rfl htab) (Am2 hgs HB3.out.size));have M1:=Jc [111,107,10] (Ae [a,b,(l:Int)]) _ rfl (by simp;omega)
  have M2:=Jc ([111,107,10]++Ae [a,b,(l:Int)]) [10] _ rfl (by simp;omega)
  have M3:=Jc ([111,107,10]++Ae [a,b,(l:Int)]++[10]) (Lib.itoa k) _ rfl (by simp;omega)
  have M4:=Jc ([111,107,10]++Ae [a,b,(l:Int)]++[10]++Lib.itoa k) [32] _ rfl (by simp;omega)
  have M5:=Jc ([111,107,10]++Ae [a,b,(l:Int)]++[10]++Lib.itoa k++[32]) (Lib.itoa n) _ rfl (by simp;omega)
  have M6:=Jc ([111,107,10]++Ae [a,b,(l:Int)]++[10]++Lib.itoa k++[32]++Lib.itoa n) [10] (Fp (O6 a b l k n) 3) (by simp[Fp,O6,Dz,F9]) (by simp[Fp,O6,Dz,F9];simp[Dz,F9]at lj;omega)
  have HKW:=Xt (w:=w) (fun W=>(Pm u v 50 W).mono fun e w' h=>⟨h.1.trans (congrArg (fun z=>Ending.returned (.int .i64 z)) X.ek),h.2⟩)
  have HKS:=Xt (w:=w) (fun W=>(Pk p q 50 W).mono fun e w' h=>⟨h.1.trans (congrArg (fun z=>Ending.returned (.int .i64 z)) X.en),h.2⟩)
  have HNA:=Xt (w:=w) (Q0 u v p q X.ep X.eq);have HDK:=Xt (w:=w) DK.out;have HDN:=Xt (w:=w) DN.out;have HP3:Hid (Fp (O6 a b l k n) 3=[111,107,10]++Ae [a,b,(l:Int)]++[10]++Ae [k,n]++[10]):=by show _=_;simp[Fp,O6]
  have HPL:Hid ((Fp (O6 a b l k n) 3).length<=5000):=by have:=Oq lk ln;rw[HP3.out];show _<=_;simp;omega
  clear X htab hgs HC lj ik iN DK DN HB2;generalize Fp (O6 a b l k n) 3=P3 at *;generalize (⟨(Lib.itoa k).toArray⟩:ByteArray)=sk at *;generalize (⟨(Lib.itoa n).toArray⟩:ByteArray)=sn at *;generalize (⟨(Au (Lx a b l)).toArray⟩:ByteArray)=sx at *;generalize (⟨([97,116,32]++Ae [a,b,(l:Int)]).toArray⟩:ByteArray)=s5 at *;generalize (⟨([111,107,10]++Ae [a,b,(l:Int)]++[10]++Lib.itoa k++[32]++Lib.itoa n).toArray⟩:ByteArray)=m5 at *;generalize (⟨([111,107,10]++Ae [a,b,(l:Int)]++[10]++Lib.itoa k++[32]).toArray⟩:ByteArray)=m4 at *;generalize (⟨([111,107,10]++Ae [a,b,(l:Int)]++[10]++Lib.itoa k).toArray⟩:ByteArray)=m3 at *;generalize (⟨([111,107,10]++Ae [a,b,(l:Int)]++[10]).toArray⟩:ByteArray)=m2 at *;generalize (⟨([111,107,10]++Ae [a,b,(l:Int)]).toArray⟩:ByteArray)=m1 at *;generalize (⟨(Ae [a,b,(l:Int)]).toArray⟩:ByteArray)=s4 at *
  go_wp2_with fail
  with_reducible refine HEX.out.mono ?_
  rintro e w4 ⟨⟨qq,hq,rfl⟩,hb4⟩;have HB4:=Aly (HB3.out.trans (hb4.mono HB3.out.size));clear hb4 HEX HB3 J5 J6;obtain⟨RES,LST,FIN,cc,z,pp,e1,e2,e3,e4,e5,e6,e7,e8,e9,e10,e11,e12⟩:=A48 P3 ([111,112,101,110,32]++Ae [(qq:Int)]) (by have:=A1m qq (by omega);rw[Amy];have:=HPL.out;simp only[Ann,Aou];omega) ⟨_,HP3.out⟩ (by rw[Aq9];exact fun h=>h.elim (by decide) (Ot _))
  rw[show P3++[111,112,101,110,32]++Ae [(qq:Int)]++[10]=P3 ++([111,112,101,110,32]++Ae [(qq:Int)])++[10] by simp,e1]
  rw[<-e12]at M6;have HLL:=Xt (w:=w) (fun W=>(A1d RES pp z e2 (by omega) e3 e5 e6 W).mono fun e w' h=>⟨h.1,by rw[h.2];exact Amc _ _⟩)
  rw[e7]at HLL
  have HSL:∀wx,(Instr.slice 9 (.string RES) none (some (.int .i64 cc)) none).run Vp.prog wx=.ok (.string FIN) wx:=fun wx=>by
   rw[run_slice_string_h (ht:=(Vp.Bl Tryz.underlying9)) (h0:=e9) (h2:=e10),e11]
  have k1:IntKind.i64.wrap cc=cc:=IntWalk.i64_in _ (by omega)
  clear e1 e2 e3 e4 e5 e6 e7 e9 e10 e11 e12 HP3 HPL
  go_wp2_with fail
  with_reducible refine(HKW.out _ HB4.out).mono ?_
  rintro e w5 ⟨rfl,hb5⟩;have HB5:=Aly hb5;clear hb5 HKW HB4
  go_wp2_with fail
  with_reducible refine(HNA.out _ HB5.out).mono ?_
  rintro e w6 ⟨rfl,hb6⟩;have HB6:=Aly hb6;clear hb6 HNA HB5
  go_wp2_with fail
  with_reducible refine(HKS.out _ HB6.out).mono ?_
  rintro e w7 ⟨rfl,hb7⟩;have HB7:=Aly hb7;clear hb7 HKS HB6
  go_upto_region 14 with fail
  have f:=HB7.out
  go_region_held3 (fun w'=>Below w.heap.size w w') (((first|dsimp only|skip);first |(with_reducible assumption) |(with_reducible exact Below.drew (by assumption))|go_keep)) (first
   |(go_at_call 15;with_reducible refine(HLL.out _ (by first|assumption|exact Aqv (by assumption))).mono ?_;rintro e w' ⟨rfl,hb⟩)
   |(go_at_call 10;with_reducible refine(HDK.out _ (by first|assumption|exact Aqv (by assumption))).mono ?_;rintro e w' ⟨rfl,hb⟩)
   |(go_at_call 10;with_reducible refine(HDN.out _ (by first|assumption|exact Aqv (by assumption))).mono ?_;rintro e w' ⟨rfl,hb⟩))
  all_goals
   go_wp2
   go_ret
   exact⟨rfl,by assumption⟩
theorem A3q (nb:Nat)(N a b l:Int)(hd:Re a b l)(w:World)(htab:Lib.TabIs Vp.prog w "internal/strconv.uint64pow10" .u64 Lib.pow10Tab)(hgs:3<w.heap.size)
 (hC:w.heap[nb]?=some (.cells #[.int .i64 a,.int .i64 b,.int .i64 l] 24 (0,0))):Calls Vp.prog 3 (Qj nb N a b l) w fun e w'=>e=.returned (.bool true)/\Below w.heap.size w w':=by
 rcases hd with⟨h1,h2,h3,h4⟩ |⟨h1,h2,h3,h4,h5⟩ |⟨rfl,rfl,rfl⟩
 ·exact Afa nb N a b l w h1 h2 h3 h4 hC
 ·obtain⟨l,rfl⟩:=Aoe h4;obtain⟨u,v,p,q,k,n,X,x1,x2,x3,x4⟩:=Afm h1 h2 h3 (by omega)
  exact A5e nb N a b l u v p q k n X x1 x2 x3 x4 w htab hgs hC
 ·exact Acw nb N w hC
end
section
open Go.RowKit Go.Conc Co Ok Lr Tl Bar
attribute [local go_sem ↓] Go.wp_at_zero Go.wp_at_succ
attribute [local go_sem] Av Am
section
variable {cl : List Nat} {c0 c1 c2 tail : Code} (R : Adc cl c0 c1 c2)
include R
theorem Aam {f k:Nat}{fnW fnV:Func}(hfn:Tryz.prog.funcs[f]?=some fnW)(hfv:Vp.prog.funcs[f]?=some fnV)(hres:fnV.results=#[.tmp k])(hini:Tryz.prog.inits.idxOf? f=none)(hbd:fnW.body=some (.seq c0 (.seq c1 (.seq c2 tail)))){a:Option Addr}{c:Nat}{bs:List UInt8}{W0:World}(hN:Vp.prog.globals.size<=W0.heap.size)(hL:Hu W0)(hs:Sl W0 a (bs.map Cp))
 (hblk:∀x,a=some x->∃b off C t fr,x=⟨b,off,none⟩/\W0.heap[b]?=some (.cells C t fr))
 (hpre:∀V,Sl V a (bs.map Cp)->HW Vp.prog [.code (.seq c0 (.seq c1 (.seq c2 (.refuse "tail"))))] (fun s a V=>A9r s a V k) ⟨#[.slice a bs.length c]++Array.replicate (fnW.ntmps-1) undef,[]⟩ V) :
 Co.Ends Tryz.prog (fun v w'=>v=.bool true/\Below W0.heap.size W0 w') #[G (Frame.enter Tryz.prog f #[.slice a bs.length c] .normal) []] W0 none #[]:=by
 obtain⟨gs,w,sl,t,q,fr',k1,k3,k6,k7,k8,k9,k10,k11,F,L,lf,B,V,b0,s1,a1,hk0,hf0,hF,hB,hw,g8,⟨r,rfl⟩,g5,g6⟩:=A6e R hfn hbd hN hL hs hblk (H:=fun _ s a V=>A9r s a V k) (fun n t a w τ d h=>h) hpre
 have hW:=Ad4 (tail:=tail) R (F:=F) (L:=L) (lf:=lf)
 let Q:Value->World->Prop:=fun v _=>v=.bool true
 have hway:Bar.Way Vp.prog (fun x=>Fin Vp.prog Q x/\x.fr.fn=f) ⟨b0.at a1 (.code .ret :: r),[],V⟩:=by
  refine .go (fun τ d=>⟨{ b0.at a1 (.code .ret :: r)with mode:=.returning },[],{ V with tape:=τ,drawn:=d }⟩) (fun τ d=>⟨_,stepG_ret'⟩) fun τ d=>.fin ⟨⟨rfl,.bool true,⟨rfl,g5,hk0,fnV,by rw[<-hf0]at hfv;exact hfv,?_⟩,rfl⟩,hf0⟩
  have:=results_tmp hres a1.tmps Vp.prog { V with tape:=τ,drawn:=d }
  rw[show a1.tmps.getD k undef=.bool true by rw[Amf,g6];rfl]at this
  exact this
 have hs:=sim (Post:=fun v w'=>v=.bool true/\Below W0.heap.size W0 w') (m0:=W0.heap.size) (w0:=W0) (S:=fun _=>False) hW (Q:=Q) (fun f p p' c cs V B gs w sl t q cs' ⟨⟨n,hn⟩,_⟩=>by cases hn) (fun _ _ _ _ h=>h) (fun x hx=>⟨hx.1,by rw[hx.2];exact hini⟩)
  (fun B V v v' W hv hvv _ hk=>by
   have hv:v=.bool true:=hv;subst hv
   cases hvv
   exact⟨rfl,⟨hk.os.1,hk.tape,hk.os.2,hk.size,fun x hx=>hk.old x hx id⟩⟩) hway
 refine Ends.ran k1 ?_
 exact hs B w.tape w.drawn gs w sl t q fr' [] (Ad6 hw) g8 .nil (by show(_,b0.kind)=_;rw[hk0];rfl) ⟨fun x y h hn=>(hB x y h).elim (fun h=>absurd h.1 hn) fun h=>.inl h.2,k8,fun x hx _=>k9 x hx,k10,k11⟩ k3 k6 k7
end
noncomputable def A35:Code:=Tryz.f3.body.getD .skip
noncomputable def xc0:Code:=match A35 with|.seq a _=>a|_=>.skip
noncomputable def xE:Code:=match A35 with|.seq _ b=>b|_=>.skip
noncomputable def xc1:Code:=match xE with|.seq a _=>a|_=>.skip
noncomputable def xD:Code:=match xE with|.seq _ b=>b|_=>.skip
noncomputable def xc2:Code:=match xD with|.seq a _=>a|_=>.skip
noncomputable def xT:Code:=match xD with|.seq _ b=>b|_=>.skip
theorem A36:Tryz.f3.body=some (.seq xc0 (.seq xc1 (.seq xc2 xT))):=by kernel_rfl
def Mu (a:Option Addr)(n c nb:Nat)(p q r:Int):Array Value:=List.toArray (.slice a n c :: undef :: .bool false :: .pointer (some ⟨nb,0,none⟩) :: undef :: undef :: undef :: undef :: undef :: undef :: undef :: undef :: .slice a n c :: .int .i64 n :: .bool false :: .slice a n c :: .agg #[.int .i64 p,.int .i64 q,.int .i64 r] :: undef :: undef :: undef :: undef :: undef :: undef :: undef :: undef :: undef :: undef :: undef :: undef :: undef :: undef :: undef :: undef :: undef :: undef :: undef :: undef :: undef :: undef :: undef :: undef :: undef :: undef :: undef :: undef :: undef :: undef :: undef :: undef :: undef :: undef :: undef :: undef :: undef :: undef :: undef :: undef :: undef :: undef :: undef :: undef :: undef :: undef :: undef :: undef :: undef :: undef :: undef :: undef :: undef :: undef :: undef :: undef :: undef :: undef :: undef :: undef :: undef :: undef :: undef :: undef :: undef :: undef :: undef :: undef :: undef :: undef :: undef :: undef :: undef :: undef :: undef :: undef :: undef :: undef :: undef :: undef :: undef :: undef :: undef :: undef :: undef :: undef :: undef :: undef :: undef :: undef :: undef :: undef :: undef :: [])
def XD (a:Option Addr)(c:Nat)(bs:List UInt8)(m0:Nat)(T:Array Value)(V:World):Prop :=
 ∃nb p q r,T=Mu a bs.length c nb p q r/\m0<=nb/\Re p q r/\V.heap[nb]?=some (.cells #[.int .i64 p,.int .i64 q,.int .i64 r] 24 (0,0))
theorem A2m (v:Value):(#[v]++Array.replicate 109 undef:Array Value)=List.toArray (v :: undef :: undef :: undef :: undef :: undef :: undef :: undef :: undef :: undef :: undef :: undef :: undef :: undef :: undef :: undef :: undef :: undef :: undef :: undef :: undef :: undef :: undef :: undef :: undef :: undef :: undef :: undef :: undef :: undef :: undef :: undef :: undef :: undef :: undef :: undef :: undef :: undef :: undef :: undef :: undef :: undef :: undef :: undef :: undef :: undef :: undef :: undef :: undef :: undef :: undef :: undef :: undef :: undef :: undef :: undef :: undef :: undef :: undef :: undef :: undef :: undef :: undef :: undef :: undef :: undef :: undef :: undef :: undef :: undef :: undef :: undef :: undef :: undef :: undef :: undef :: undef :: undef :: undef :: undef :: undef :: undef :: undef :: undef :: undef :: undef :: undef :: undef :: undef :: undef :: undef :: undef :: undef :: undef :: undef :: undef :: undef :: undef :: undef :: undef :: undef :: undef :: undef :: undef :: undef :: undef :: undef :: undef :: undef :: undef :: []):=by kernel_rfl
theorem Aik (a:Option Addr)(c:Nat)(bs:List UInt8)(hn:bs.length<=1048576)(hc:bs.length<=c)(V:World)(hs:Sl V a (bs.map Cp)) :
 HW Vp.prog [.code (.seq xc0 (.seq xc1 (.seq xc2 (.refuse "tail"))))] (A9q (XD a c bs V.heap.size)) ⟨#[.slice a bs.length c]++Array.replicate 109 undef,[]⟩ V:=by
 have HD:=Aly (fun(V:World) hs=>Oj a c bs hn hc V hs)
 have hXD:∀T V0 V1,(∃nb p q r,T=Mu a bs.length c nb p q r/\V0<=nb/\Re p q r/\V1.heap[nb]?=some (.cells #[.int .i64 p,.int .i64 q,.int .i64 r] 24 (0,0)))->Hid (XD a c bs V0 T V1):=fun _ _ _ h=>h
 rw[A2m];generalize bs.length=n at *
 refine .seq (.Cq ?_)
 unfold xc0 A35 Tryz.f3;dsimp only[Option.getD]
 go_wp2
 show HW _ _ _ _ _
 refine .seq (.seq (.Cq ?_))
 go_wp2
 show HW _ _ _ _ _
 refine .cond (t:=false) ?_ (.skip (.seq (.Cq ?_)))
 ·show Value.bool (decide _)=_
  rw[Ana (by omega)]
 unfold xc2 xD xE A35 Tryz.f3;dsimp only[Option.getD]
 go_wp2_with fail
 refine(HD.out V hs).mono ?_
 rintro e w1 ⟨⟨p,q,r,rfl,hd⟩,hb⟩;have X:=A7.new w1 #[.int .i64 0,.int .i64 0,.int .i64 0] 24;obtain⟨c0,c1,c2⟩:=X.C5;have f0:=X.frozen 0;have f1:=X.frozen 1;have f2:=X.frozen 2;have HX:=Aly (A7.new w1 #[.int .i64 p,.int .i64 q,.int .i64 r] 24).blk;have hsz:=Aly hb.size;have HDR:=Aly hd;have HXD:=Aly hXD;have HN:Hid (decide ((1048576:Int)<n)=false):=Ana (by omega)
 clear hb hd hs hXD X HD hn hc
 go_wp2
 refine .stop ⟨rfl,rfl,(HXD.out _ _ _ ⟨w1.heap.size,p,q,r,?_,hsz.out,HDR.out,HX.out⟩).out⟩
 rw[HN.out]
 rfl
end
section
open Go.RowKit Go.Conc Co Ok Lr Tl Bar
attribute [local go_sem ↓] Go.wp_at_zero Go.wp_at_succ
theorem Aim (a:Option Addr)(c:Nat)(bs:List UInt8)(hn:1048576<bs.length)(V:World) :
 HW Vp.prog [.code (.seq xc0 (.seq xc1 (.seq xc2 (.refuse "tail"))))] (fun s a V=>A9r s a V 2) ⟨#[.slice a bs.length c]++Array.replicate 109 undef,[]⟩ V:=by
 rw[A2m];generalize bs.length=n at *
 refine .seq (.Cq ?_)
 unfold xc0 A35 Tryz.f3;dsimp only[Option.getD]
 go_wp2
 show HW _ _ _ _ _
 refine .seq (.seq (.Cq ?_))
 go_wp2
 show HW _ _ _ _ _
 refine .cond (t:=true) ?_ (.seq (.Cq ?_))
 ·show Value.bool (decide _)=_
  rw[An0 (by omega)]
 go_wp2_with fail
 exact .stop ⟨⟨_,rfl⟩,rfl,rfl⟩
def Q4:Value->Bool
 | .tuple p=>p.isEmpty
 | .bool _=>true
 | .int _ _=>true
 | .slice _ _ _=>true
 | .agg p=>p.all fun v=>match v with|.int _ _=>true|_=>false
 | _=>false
def A27:Value->Value
 | .slice _ _ _=>undef
 | v=>v
def Qh (T:Array Value)(nb:Nat):Array Value:=(T.map A27).setIfInBounds 3 (.pointer (some ⟨nb,0,none⟩))
theorem A7w {X X0:Cx}{B B0:Lk}{p p':Array Value}(h:p.all (fun v=>match v with|.int _ _=>true|_=>false)=true)(k:AR X0 B0 p p'):AR X B p p':=by
 refine⟨k.1,fun i v v' a b=>?_⟩
 have h1:=k.2 i v v' a b;have h2:=(Array.all_eq_true.1 h) i (Alx.1 a).1;rw[(Alx.1 a).2]at h2
 cases h1<;>first|exact .int _ _ |(simp at h2)
theorem A8u {X0 X:Cx}{B0 B:Lk}{v v':Value}(hE:¬X0.Ex)(hX:X.Ex)(hok:Q4 v=true)(h:VR X0 B0 v v'):VR X B (A27 v) v':=by
 cases h with
 | bool b=>exact .bool b
 | int k n=>exact .int k n
 | Iu l c=>exact .gone _ _ _ hX
 | slice l c _=>exact .gone _ _ _ hX
 | gone a l c hx=>exact absurd hx hE
 | @agg p p' h1 h2 =>
   obtain⟨g1,g2⟩:=A7w (X:=X) (B:=B) (show p.all _=true from hok) (⟨h1,h2⟩:AR X0 B0 p p')
   exact .agg g1 g2
 | @tuple p p' h1 h2 =>
   have e:p=#[]:=by simpa using (show p.isEmpty=true from hok)
   subst e;have e':p'=#[]:=Array.eq_empty_of_size_eq_zero h1.symm;subst e'
   exact Du
 | _=>exact absurd hok (by simp[Q4])
theorem A8t {X:Cx}{B:Lk}{v:Value}(hok:Q4 v=true):VR X B (A27 v) (A27 v):=by
 cases v with
 | bool b=>exact .bool b
 | int k n=>exact .int k n
 | slice a l c=>exact Du
 | agg p =>
   refine .agg rfl fun i v v' a b=>?_
   rw[a]at b
   cases b
   have h2:=(Array.all_eq_true.1 (show p.all _=true from hok)) i (Alx.1 a).1;rw[(Alx.1 a).2]at h2
   cases v<;>first|exact .int _ _ |(simp at h2)
 | tuple p =>
   have e:p=#[]:=by simpa using (show p.isEmpty=true from hok)
   subst e
   exact Du
 | _=>exact absurd hok (by simp[Q4])
theorem A2w {T:Array Value}{nb i:Nat}(h3:3<T.size):(Qh T nb)[i]?=if i=3 then some (.pointer (some ⟨nb,0,none⟩))else(T[i]?).map A27:=by
 unfold Qh;rw[Am4]
 by_cases h:3=i
 ·subst h;rw[Amo rfl,Amo rfl,Amo (by simpa using h3)]
 ·rw[Amd h,Amd (fun e=>h e.symm),Amv]
theorem Afe {X0 X:Cx}{B0:Lk}{S:Nat->Prop}{T0 T1:Array Value}{nb:Nat}(h:AR X0 B0 T0 T1)(hE:¬X0.Ex)(hX:X.Ex)(hD:∀x,¬X.D x)(hL:∀x,X.L x=0)(hS:S nb)(h3:3<T0.size)(h3':T1[3]?=some (.pointer (some ⟨nb,0,none⟩)))(hok:∀i v,i≠3->T0[i]?=some v->Q4 v=true):AR X (idX S) (Qh T0 nb) T1:=by
 refine⟨by unfold Qh;simpa using h.1,fun i v v' a b=>?_⟩
 rw[A2w h3]at a
 by_cases hi:i=3
 ·subst hi;rw[Amo rfl]at a
  cases a
  rw[h3']at b
  cases b
  exact .ptr ⟨⟨⟨hS,rfl⟩,hD _⟩,⟨rfl,by rw[hL];exact Amu _⟩,rfl⟩
 ·rw[Amd hi]at a;obtain⟨u,hu,rfl⟩:=Ami.1 a
  exact A8u hE hX (hok i u hi hu) (h.2 i u v' hu b)
theorem A9l {X:Cx}{S:Nat->Prop}{T0:Array Value}{nb:Nat}(hD:∀x,¬X.D x)(hL:∀x,X.L x=0)(hS:S nb)(h3:3<T0.size)(hok:∀i v,i≠3->T0[i]?=some v->Q4 v=true):AR X (idX S) (Qh T0 nb) (Qh T0 nb):=by
 refine⟨rfl,fun i v v' a b=>?_⟩
 rw[a]at b
 cases b
 rw[A2w h3]at a
 by_cases hi:i=3
 ·rw[Amo hi]at a
  cases a
  exact .ptr ⟨⟨⟨hS,rfl⟩,hD _⟩,⟨rfl,by rw[hL];exact Amu _⟩,rfl⟩
 ·rw[Amd hi]at a;obtain⟨u,hu,rfl⟩:=Ami.1 a
  exact A8t (hok i u hi hu)
theorem Ac7 (a:Option Addr)(n c nb:Nat)(p q r:Int):∀i v,i≠3 ->(Mu a n c nb p q r)[i]?=some v->Q4 v=true:=by
 have h:(List.range 110).all (fun i=>i == 3 || Q4 ((Mu a n c nb p q r).getD i undef))=true:=by kernel_rfl
 intro i v hi hv;have hlt:i<110:=(Alx.1 hv).1;have:=Aoa.1 h i (Apj.2 hlt);rw[Amf,hv,Ane,Aqw]at this
 exact this.resolve_left hi
theorem A4u (a:Option Addr)(n c nb nb':Nat)(p q r:Int):Qh (Mu a n c nb p q r) nb'=Qj nb' n p q r:=by kernel_rfl
end
section
open Go.ChangeShapes Go.WideShapes Go.ChangeAt Go.RowKit
def Kt (P:Program)(ts:List TypeId):Bool:=ts.all fun t=>P.readableRec t && decide (t<P.types.size)
theorem Lw {H:Type}{enc:TypeId×Value->H}{P:Program}(hl:laidOutB P=true){W W':World}(hb:Below W.heap.size W W') :
 ∀{ts:List TypeId} {vs:List Value} {ds:List (DataW H)} {ps:List MemPlace},Kt P ts=true ->
  DataW.TrodAll enc P W 0 (fun _=>true) true ts vs ds ps ->(∀x∈ps,x.block<W.heap.size) ->
  DataW.TrodAll enc P W' 0 (fun b=>decide (b<W.heap.size)) true ts vs ds ps
 | [],[],[],_,_,h,_=>h
 | [],[],_ :: _,_,_,h,_=>h.elim
 | [],_ :: _,_,_,_,h,_=>h.elim
 | _ :: _,[],_,_,_,h,_=>h.elim
 | _ :: _,_ :: _,[],_,_,h,_=>h.elim
 | t :: ts,v :: vs,d :: ds,ps,hv,h,hlt=>by
   obtain⟨p,q,h1,h2,rfl⟩:=h;simp only[Kt,List.all_cons,Am8,Amt]at hv
   exact⟨p,q,Below.trod hl hv.1.1 hv.1.2 h1 hb (fun x hx=>hlt x (by simp[hx])),
    Lw hl hb (by simpa [Kt]using hv.2) h2 (fun x hx=>hlt x (by simp[hx])),rfl⟩
theorem Aba {H:Type}{enc:TypeId×Value->H}{P:Program}{fn:Func}{s:ChangeSpec}{apart:Bool}{W W':World}{args:Array Value}{ds gs:List (DataW H)}{before:List MemPlace}{tb:TypeId}
 (hl:laidOutB P=true) (hp:Kt P fn.params.toList=true) (hvr:varsRowed P s.vars=true) (hr:fn.resultTypes=#[tb]) (htb:P.underlying tb=some .bool)
 (hW:DataW.Whole enc P fn.params.toList s.vars apart W args.toList ds gs before)
 (hs:(s.fn H (ds++gs)).results=[.lit (.bool true)]) (ha:(s.fn H (ds++gs)).args=ds) (hv:(s.fn H (ds++gs)).vars=gs)
 (hb:Below W.heap.size W W'):s.post enc P fn apart true false false W args (.bool true) W':=by
 have hlt:=hW.lt;have hW2:=hW;obtain⟨p,q,hA,hV,rfl,hz,hn⟩:=hW
 refine⟨ds,gs,p++q,[],p,q,hW2,?_,?_,?_,?_,fun h=>by cases h⟩
 ·rw[hs,hr]
  exact trodAll_mk1 (shut_bool htb true)
 ·rw[ha]
  exact Lw hl hb hp hA (fun x hx=>hlt x (by simp[hx]))
 ·rw[hv]
  exact Below.trodVars hl hb hvr hV
 ·exact hb.frame _
theorem A68 {α:Type}{f:α->Value}{R:α->Prop}{V:Nat->Value}:∀{len:Nat},(∀i,i<len->∃x,V i=f x/\R x)->∃X:List α,X.length=len/\∀i x,X[i]?=some x->V i=f x/\R x
 | 0,_=>⟨[],rfl,by simp⟩
 | k+1,hV=>by
   obtain⟨X,hX,hX2⟩:=A68 (len:=k) (fun i hi=>hV i (by omega))
   obtain⟨x,hx⟩:=hV k (by omega)
   refine⟨X++[x],by simp[hX],fun i u hu=>?_⟩
   by_cases hi:i<X.length
   ·rw[List.getElem?_append_left hi]at hu;exact hX2 i u hu
   ·rw[List.getElem?_append_right (by omega)]at hu
    have:i-X.length=0:=by
     rcases Ani (i-X.length)with h|h
     ·exact h
     ·rw[List.getElem?_eq_none (by simp;omega)]at hu;cases hu
    rw[this]at hu;simp at hu;subst hu;obtain rfl:i=k:=by omega
    exact hx
theorem Aeo {H:Type}{enc:TypeId×Value->H}{P:Program}{w:World}{base:Nat}{spare:Nat->Bool}{held:Bool}{t e:TypeId}{α:Type}{f:α->Value}{R:α->Prop}(ht:P.underlying t=some (.slice e))(hc:P.cellsOf e=1)
 (he:∀n v (y:DataW H×List MemPlace),DataW.trod enc P w base spare held n e [v]=some y->∃x,v=f x/\R x) {n:Nat} {v:Value} {y:DataW H×List MemPlace} (h:DataW.trod enc P w base spare held n t [v]=some y) :
 ∃(a:Option Addr) (c:Nat) (xs:List α),v=.slice a xs.length c/\xs.length<=maxLen/\Sl w a (xs.map f) /\(∀x∈xs,R x)/\xs.length<=c:=by
 rcases Deep.open_slice1 ht hc h with⟨h,_⟩ |⟨a,len,cap,m,n,V,D,Pl,hcs,_,hl,hm,hmm,_,hx⟩
 ·simp at h;exact⟨none,0,[],h,Amu _,.inl rfl,by simp,Am0 _⟩
 ·have hlm:len<=m:=by rw[hmm];split<;>omega
  have hV:∀i,i<len->∃x,V i=f x/\R x:=fun i hi=>he _ _ _ (hx i (by omega)).2
  obtain⟨X,hX,hX2⟩:=A68 hV;simp at hcs;subst hcs
  refine⟨some a,cap,X,by rw[hX],by omega,?_,fun x hx=>?_,by omega⟩
  ·by_cases h0:len=0
   ·exact .inl (by rw[List.eq_nil_of_length_eq_zero (show X.length=0 by omega)];rfl)
   ·have hspot:a=⟨a.block,a.off,none⟩:=by
     have:=(hx 0 (by omega)).1
     obtain⟨b,o,s⟩:=a
     cases s with
     | none=>rfl
     | some s=>simp[Addr.add,World.cell?]at this;split at this<;>simp at this
    refine .inr ⟨a.block,a.off,by rw[<-hspot],fun i v hv=>?_⟩
    rw[Aqj]at hv;obtain⟨x,hx1,rfl⟩:=Ami.1 hv
    have hi:i<len:=by
     have:=(Aor.1 hx1).1;omega
    rw[<-(hX2 i x hx1).1,<-(hx i (by omega)).1]
    congr 1
    unfold Addr.add
    by_cases hi0:i=0
    ·rw[Amo hi0,hi0,Nat.add_zero];exact hspot.symm
    ·rw[Amd hi0]
  ·obtain⟨i,hi,rfl⟩:=List.getElem_of_mem hx
   exact(hX2 i _ (Amw hi)).2
theorem A4h {H:Type}{enc:TypeId×Value->H}{P:Program}{w:World}{base:Nat}{spare:Nat->Bool}{held:Bool}{r:Reach}{b0:Nat}{t e:TypeId}{v:Value}{d:DataW H}{p:List MemPlace}(ht:P.underlying t=some (.slice e))(hu:P.underlying e=some (.int .u8))(hc:P.cellsOf e=1)
 (hv:Value.okWide P w r b0 t v) (h:DataW.Trod enc P w base spare held t v d p):∃(a:Option Addr) (c:Nat) (bs:List UInt8),v=.slice a bs.length c/\bs.length<=maxLen/\bs.length<=c/\Sl w a (bs.map Cp):=by
 obtain⟨fuel,hf⟩:=h;obtain⟨a,l,c,rfl⟩:∃a l c,v=.slice a l c:=okWide_slice ht hv
 obtain⟨a,c,xs,e,hn,hS,_,hc⟩:=Aeo (f:=Cp) (R:=fun _=>True) ht hc (fun n v y hy=>by
  obtain⟨x,e,_,hw⟩:=DataW.trod_int hu hy;simp at e;subst e;have:x.toNat<256/\0<=x:=by simp[Lit.wf,IntKind.min,IntKind.max,IntKind.signed,IntKind.bits]at hw;omega
  refine⟨⟨⟨x.toNat,by omega⟩⟩,?_,trivial⟩
  unfold Cp
  congr 1
  show x=(x.toNat:Int)
  omega) (by simpa [Value.cells]using hf)
 exact⟨a,c,xs,e,hn,hc,hS⟩
end
section
open Go.ChangeShapes Go.WideShapes Go.ChangeAt Go.RowKit Go.Conc Ok
theorem A3w {P:Program}{w:World}(h:w.ShapedOpen P):P.globals.size<=w.heap.size:=by
 have hb:P.globals.size <(begin P (fun _ _=>0) default).world.heap.size:=by
  unfold begin;simp
  omega
 obtain⟨o,o0,h1,_⟩:=h.2 P.globals.size (Am0 _) hb
 exact Apt (Alx.1 h1).1
theorem Aa2 {P:Program}{w:World}{r:Reach}{b0:Nat}{t e:TypeId}{a:Option Addr}{l c:Nat}(ht:P.underlying t=some (.slice e))(hv:Value.okWide P w r b0 t (.slice a l c)) :
 ∀x,a=some x->∃b off C t fr,x=⟨b,off,none⟩/\w.heap[b]?=some (.cells C t fr):=by
 rintro x rfl;unfold Value.okWide at hv;rw[ht]at hv;unfold Cell.okWide at hv;rw[ht]at hv;have hv:Cell.ok P w r b0 t (.slice (some x) l c):=hv;unfold Cell.ok at hv;rw[ht]at hv;obtain⟨_,_,_,hs,row,cells,hsh,_⟩:=hv;obtain⟨b,off,s⟩:=x;dsimp only at hs hsh;subst hs;unfold World.shape? at hsh
 split at hsh
 ·rename_i C t fr h
  exact⟨b,off,C,t,fr,rfl,h⟩
 ·cases hsh
theorem Alk:ownKnob Tryz.prog.godebug=none:=by kernel_rfl
theorem A7r:Vp.prog.globals=Tryz.prog.globals:=congrArg Tables.globals Vp.Gb
theorem Ak3:laidOutB Tryz.prog=true:=by kernel_rfl
end
section
open Go.RowKit Go.Conc Co Ok Lr Tl Bar
def Rl (P:Program)(u:TypeId):Bool:=match P.underlying u with|some .bool=>true|some (.int _)=>true|_=>false
theorem A3j {P:Program}{W:World}{u:TypeId}{v:Value}(hb:Rl P u=true)(h:Cell.ok P W .any 0 u v):(∃b,v=.bool b)\/∃k n,v=.int k n:=by
 unfold Rl at hb;unfold Cell.ok at h
 split at hb
 ·rename_i e
  rw[e]at h
  cases v<;>first|exact .inl ⟨_,rfl⟩|exact h.elim
 ·rename_i e
  rw[e]at h
  cases v<;>first|exact .inr ⟨_,_,rfl⟩|exact h.elim
 ·cases hb
theorem A8l {P:Program}{W:World}{t:TypeId}{cs:Array Value}(hb:(P.cellTypes P.depth t).map (fun ts=>ts.all (Rl P))=some true)(h:Row.ok P W .any 0 t cs):∀v∈cs,(∃b,v=.bool b)\/∃k n,v=.int k n:=by
 obtain⟨ts,h1,_,h2⟩:=h;rw[h1]at hb;have hall:ts.all (Rl P)=true:=Aml hb;intro v hv;obtain⟨i,hi⟩:=Array.getElem?_of_mem hv;obtain⟨u,hu,hc⟩:=h2 i v hi
 exact A3j (Aoa.1 hall u (Aob hu)) hc
theorem A3v {v:Value}(h:(∃b,v=.bool b)\/∃k n,v=.int k n)(X:Cx):Flat X v:=fun B=>by
 rcases h with⟨b,rfl⟩ |⟨k,n,rfl⟩
 ·exact .bool b
 ·exact .int k n
theorem Aew {P:Program}{W:World}{t:TypeId}{cs:Array Value}(hb:(P.cellTypes P.depth t).map (fun ts=>ts.all fun u=>match P.underlying u with|some (.int _)=>true|_=>false)=some true)(h:Row.ok P W .any 0 t cs):∀v∈cs,∃k n,v=.int k n:=by
 obtain⟨ts,h1,_,h2⟩:=h;rw[h1]at hb;have hall:ts.all _=true:=Aml hb;intro v hv;obtain⟨i,hi⟩:=Array.getElem?_of_mem hv;obtain⟨u,hu,hc⟩:=h2 i v hi;have:=Aoa.1 hall u (Aob hu);unfold Cell.ok at hc
 split at this
 ·rename_i e
  rw[e]at hc
  cases v<;>first|exact⟨_,_,rfl⟩|exact hc.elim
 ·cases this
theorem Uo (P:Program):(begin P (fun _ _=>0) default).world.heap[P.globals.size]?=some (.cells ((Array.range P.types.size).map fun t=>.int .u64 (Int.ofNat t)) 0):=by
 unfold begin;dsimp only
 have key:∀(A:Array Obj) (x a b c d:Obj),A.size=P.globals.size ->(((((A.push x).push a).push b).push c).push d)[P.globals.size]?=some x:=by
  intro A x a b c d h;rw[<-h];rw[Ama,Amd (by simp;omega),Ama,Amd (by simp;omega),Ama,Amd (by simp;omega),Ama,Amd (by simp),Ama,Amo rfl]
 exact key _ _ _ _ _ _ (by simp)
theorem Ur {P:Program}{W:World}(h:W.ShapedOpen P):W.heap[P.globals.size]?=some (.cells ((Array.range P.types.size).map fun t=>.int .u64 (Int.ofNat t)) 0):=by
 have hb:P.globals.size <(begin P (fun _ _=>0) default).world.heap.size:=by
  unfold begin;simp
  omega
 obtain⟨o,o0,h1,h2,h3⟩:=h.2 P.globals.size (Am0 _) hb;rw[Uo]at h2;injection h2 with h2
 rw[Nat.sub_self,Amd (by decide)]at h3
 rw[h1,h3,<-h2]
theorem A0q {n:Nat}:∀v∈((Array.range n).map fun t=>(.int .u64 (Int.ofNat t):Value)),∃k m,v=.int k m:=by
 intro v hv;obtain⟨t,-,rfl⟩:=Array.mem_map.1 hv
 exact⟨_,_,rfl⟩
theorem A7q {W:World}(h:W.ShapedOpen Tryz.prog):Hu W:=by
 intro b C t fr hb hw v hv X;have hn:Vp.prog.globals.size=7:=by kernel_rfl
 have hnW:Tryz.prog.globals.size=7:=by kernel_rfl
 have key:∀(g:Nat) (zero:Array Value) (tt:TypeId),g<7 ->((begin Tryz.prog (fun _ _=>0) default).world.heap[g]?).bind Obj.row?=some (zero,tt)->Tryz.prog.buildable tt=true ->(Tryz.prog.cellTypes Tryz.prog.depth tt).map (fun ts=>ts.all (Rl Tryz.prog))=some true->b=g->Flat X v:=by
  rintro g zero tt hg h0 h1 h2 rfl;obtain⟨cs,e1,-,e3⟩:=h.1 b zero tt (by omega) h0
  rw[e1]at hw;injection hw with hw
  injection hw with hw _ _
  subst hw
  exact A3v (A8l h2 (e3 h1) v hv) X
 rcases(by omega:b=0\/b=1\/b=2\/b=3\/b=4\/b=5\/b=6)with e|e|e|e|e|e|e
 ·exact key _ #[.bool false] 4 (by decide) (by kernel_rfl) (by kernel_rfl) (by kernel_rfl) e
 ·exact key _ (Array.replicate 64 (.int .u8 0)) 174 (by decide) (by kernel_rfl) (by kernel_rfl) (by kernel_rfl) e
 ·exact key _ #[.int .i64 0] 3 (by decide) (by kernel_rfl) (by kernel_rfl) (by kernel_rfl) e
 ·exact key _ (Array.replicate 20 (.int .u64 0)) 258 (by decide) (by kernel_rfl) (by kernel_rfl) (by kernel_rfl) e
 ·exact key _ (Array.replicate 256 (.int .u8 0)) 281 (by decide) (by kernel_rfl) (by kernel_rfl) (by kernel_rfl) e
 ·exact key _ (Array.replicate 32 (.int .u8 0)) 284 (by decide) (by kernel_rfl) (by kernel_rfl) (by kernel_rfl) e
 ·exact key _ (Array.replicate 32 (.int .u8 0)) 285 (by decide) (by kernel_rfl) (by kernel_rfl) (by kernel_rfl) e
theorem A9i {W:World}(h:W.ShapedOpen Tryz.prog):∃c t f,W.heap[3]?=some (.cells c t f)/\∀v∈c,∃k n,v=.int k n:=by
 obtain⟨cs,e1,-,e3⟩:=h.1 3 (Array.replicate 20 (.int .u64 0)) 258 (by rw[show Tryz.prog.globals.size=7 by kernel_rfl];decide) (by kernel_rfl)
 exact⟨cs,_,_,e1,Aew (by kernel_rfl) (e3 (by kernel_rfl))⟩
end
section
open Go.Conc Co Ok Lr Tl Bar
def Ajw:List Nat:=[6,7,8,9,10,11,12,13,14,15,21,22,25,26,27,28,29,30,31,32,33,34,35,36,37,38,39,40,41,43,54,55,58,59,60,61,64,65,66,67,68,69,70,71,72,73,74,75,76,77,78,79,80,81,83,97,98,100,101,102,103,104,105,106,107,108,109,110,111,112,113,114,115,116,117,118,119,120,121,122,123,124,125,127,140,144,149,153,154,155,156,158,159,171,183,184,185,186,187,188,189,190,191,192,210,212,213,214,215,216,219,229,230,46,47,48,49,50,88,89,90,91,92,93,94,95,96,131,132,133,134,135,136,137,138,139,168,169,170,197]
def Ajv:List Nat:=[5,23,24,62,63]
theorem A0k:Agk Ajw [3,7] 3 xT:=⟨by kernel_rfl,by kernel_rfl,by kernel_rfl,by kernel_rfl,by kernel_rfl,by kernel_rfl,by kernel_rfl⟩
theorem A0j:Adc Ajv xc0 xc1 xc2:=⟨by kernel_rfl,by kernel_rfl,by kernel_rfl,by kernel_rfl,by kernel_rfl,by kernel_rfl⟩
end
section
open Go.RowKit Go.Conc Co Ok Lr Tl Bar
theorem Afg:∃fn,Vp.prog.funcs[3]?=some fn/\fn.body=some xT/\fn.ntmps=110/\fn.results=#[.tmp 2]:=⟨_,Vp.func3,by kernel_rfl,by kernel_rfl,by kernel_rfl⟩
theorem Ad1:Tryz.f3.ntmps-1=109:=by kernel_rfl
theorem Ajx {X0:Cx}{B:Lk}{p q r:Int}{c:Array Value}(h:AR X0 B #[.int .i64 p,.int .i64 q,.int .i64 r] c):c=#[.int .i64 p,.int .i64 q,.int .i64 r]:=by
 refine(Ank fun i=>?_)
 rcases h.get i with⟨v,v',h1,h2,h3⟩ |⟨h1,h2⟩
 ·rw[h2];have hi:i<3:=(Alx.1 h1).1
  rcases(by omega:i=0\/i=1\/i=2)with rfl|rfl|rfl<;>(cases h1;cases h3;rfl)
 ·rw[h1,h2]
theorem Aes {X:Cx}{B:Lk}{nb:Nat}{v:Value}(h:VR X B (.pointer (some ⟨nb,0,none⟩)) v):∃nb',B nb nb'/\v=.pointer (some ⟨nb',0,none⟩):=by
 cases h with
 | @ptr _ ad h =>
   obtain⟨⟨h1,h2⟩,⟨h3,_⟩,h4⟩:=h;obtain⟨x,y,z⟩:=ad;dsimp only at h1 h3 h4;subst h3 h4
   exact⟨x,h1,rfl⟩
theorem Ail (hV:Adf){W0:World}{a:Option Addr}{c:Nat}{bs:List UInt8}(hN:Vp.prog.globals.size<=W0.heap.size)(hG:Hu W0)(hcap:bs.length<=c)(hs:Sl W0 a (bs.map Cp))
 (hblk:∀x,a=some x->∃b off C t fr,x=⟨b,off,none⟩/\W0.heap[b]?=some (.cells C t fr)) (htab:Lib.TabIs Vp.prog W0 "internal/strconv.uint64pow10" .u64 Lib.pow10Tab)
 (hT:∃c t f,W0.heap[3]?=some (.cells c t f)/\∀v∈c,∃k n,v=.int k n) (hH:∃c t f,W0.heap[7]?=some (.cells c t f)/\∀v∈c,∃k n,v=.int k n) :
 Co.Ends Tryz.prog (fun v w'=>v=.bool true/\Below W0.heap.size W0 w') #[G (Frame.enter Tryz.prog 3 #[.slice a bs.length c] .normal) []] W0 none #[]:=by
 obtain⟨fnV,hfv,hbv,hnv,hrv⟩:=Afg;have hini:Tryz.prog.inits.idxOf? 3=none:=A0k.ini
 by_cases hlen:1048576<bs.length
 ·refine Aam A0j Tryz.func3 hfv hrv hini A36 hN hG hs hblk fun V _=>?_
  rw[Ad1]
  exact Aim a c bs hlen V
 ·obtain⟨gs,w,sl,t,q,b,aW,k1,k2,k3,k4,k5,k6,k7,k8,k9,k10,k11,X,B,V,T,hE,hD,hF,hB,hw,har,nb,p,q',r,rfl,hnb,hdr,hVb⟩:=Aaj A0j Tryz.func3 A36 hN hG hs hblk (D:=XD a c bs) (fun n T V τ d h=>h) (fun V h=>by rw[Ad1];exact Aik a c bs (by omega) hcap V h)
  have h3:3 <(Mu a bs.length c nb p q' r).size:=by show 3<110;omega
  obtain⟨v,v',g1,g2,g3⟩ |⟨g1,-⟩:=har.get 3
  ·cases g1
   obtain⟨nb',hbb,rfl⟩:=Aes g3;have hnb':W0.heap.size<=nb':=(hB _ _ hbb).elim (fun h=>absurd h.1 (hF nb hnb).1) And.right
   obtain⟨o,o',e1,e2,e3⟩:=hw.live nb nb' hbb (hD _) (hF nb hnb).1;rw[hVb]at e1
   cases e1
   cases e3 with
   | @cells _ c' _ _ hac =>
     obtain rfl:=Ajx hac;have hst:=A4u a bs.length c nb nb' p q' r;have hok:=Ac7 a bs.length c nb p q' r;have kept:∀x:Nat,(∃c t f,W0.heap[x]?=some (.cells c t f)/\∀v∈c,∃k n,v=.int k n)->∃c t f,w.heap[x]?=some (.cells c t f)/\∀v∈c,∃k n,v=.int k n:=fun x ⟨c,t,f,h1,h2⟩=>⟨c,t,f,(k9 x (Alx.1 h1).1).trans h1,h2⟩
     have htw:∀τ d,Lib.TabIs Vp.prog { w with tape:=τ,drawn:=d } "internal/strconv.uint64pow10" .u64 Lib.pow10Tab:=fun τ d=>by
      unfold Lib.TabIs World.var? at htab ⊢;rw[Iq]at htab ⊢;obtain⟨c,t,f,h1,-⟩:=hT;rw[Ao9,h1]at htab;rw[Ao9,show({ w with tape:=τ,drawn:=d }:World).heap[3]?=some (.cells c t f)from(k9 _ (Alx.1 h1).1).trans h1]
      exact htab
     have hg3:3<w.heap.size:=by obtain⟨c,t,f,h1,-⟩:=hT;exact Am2 (Alx.1 h1).1 k8
     refine Ends.ran k1 (Aal A0k hV hfv hbv (T:=Qh (Mu a bs.length c nb p q' r) nb') (by rw[hst,hnv];rfl) (bs:=fun x=>x=nb') (Am1 hN k8) k8 k9 k10 k11 (fun x hx=>hx▸hnb') (fun x hx=>?_) k2 k3 k4 k5
      (fun X' hX hD' hL=>Afe har hE hX (fun x=>by rw[hD'];exact id) hL (.inr rfl) h3 g2 hok) (fun X' hD' hL=>A9l (fun x=>by rw[hD'];exact id) hL (.inr rfl) h3 hok) (by kernel_rfl) k6 k7 fun τ d=>?_)
     ·rcases hx with hx|rfl
      ·simp only[An7,An6,Ap5]at hx
       rcases hx with rfl|rfl
       ·exact kept _ hT
       ·exact kept _ hH
      ·refine⟨_,_,_,e2,fun v hv=>?_⟩
       simp only[Aq5]at hv;obtain⟨i,hi,rfl⟩:=hv;have hi:i<3:=hi
       rcases(by omega:i=0\/i=1\/i=2)with rfl|rfl|rfl<;>exact⟨_,_,rfl⟩
     ·rw[hst]
      refine(A3q nb' bs.length p q' r hdr { w with tape:=τ,drawn:=d } (htw τ d) hg3 e2).mono ?_
      rintro e w' ⟨rfl,hb⟩
      refine⟨rfl,fun x hx=>hb.block x ?_⟩
      simp only[An7,An6,Ap5]at hx
      rcases hx with rfl|rfl
      ·exact hg3
      ·obtain⟨c,t,f,h1,-⟩:=hH
       exact Am2 (Alx.1 h1).1 k8
  ·exact absurd g1 (by rw[Am6 h3];simp)
end
end Go.Proofs.YtjaehldnlamgkaaGreatDoor
section
namespace Go
theorem Claim7.L9 (Lk:Looks){p:Pinned}{s:OpenSpec}{c:OpenClaim}(kinds:List LaidKind)(tests:Bool)(har:Bool×String)(lk:Bool)
 (hc:c.holds p s) (hw:c.wfByText s=true) (htie:c.laidByTextAt Lk p kinds tests)
 (hst:c.start=.entering) (hnb:c.noBlocks=false/\c.again=false) (hm:p.checked.prog.mainIs=some (har.1,har.2.toList)) (hn:(!har.1 && har.2.isEmpty && !lk)=false)
 (hl:∀f fn,p.checked.prog.funcNamed c.func=some f->p.checked.prog.funcs[f]?=some fn->lk=p.checked.prog.looks []/\∀(j:Nat) t,fn.params[j]?=some t->p.checked.prog.wantsStandIn t=false)
 (hg:true=c.goesBy p.checked.prog) :
 Claim7.holds p (.plain s) { stood:={ row:=c,standIns:=[],harness:=har,looks:=lk },kinds:=[],alts:=[],laidByText:=true,laidKinds:=kinds,laidTests:=tests,laidLooks:=Lk,goes:=true }:=by
 have h6:Claim7.isSixth { stood:={ row:=c,standIns:=[],harness:=har,looks:=lk },kinds:=[] }=false:=by simpa [Claim7.isSixth]using hn
 have h:=Claim7.tied_new_at Lk kinds tests (Claim7.new_of_sixth hc har lk hst hnb hm h6 hl) hw
 exact⟨h,(fun D hD=>by cases hD),htie,(fun h=>by cases h),hg⟩
end Go
namespace Go.Proofs.YtjaehldnlamgkaaGreatDoor
open Go.ChangeShapes Go.WideShapes Go.ChangeAt Go.RowKit Go.Conc Ok
section
variable {H : Type} {enc : TypeId × Value -> H}
theorem Sx {a:Assume}{C:Checked}{os:Os}{f:FuncId}{fn:Func}{s:ChangeSpec}{conds:List PathCond}{apart fresh handsOn again:Bool}{laid:List (String×DataW Unit)}
 (own:ownKnob C.prog.godebug=none) (started:os.Started) (hfn:C.prog.funcs[f]?=some fn)
 (witness:∃(w:World) (tape:Tape) (i:Input),w.os=os /\(w.forCall tape i).Shaped C.prog/\i.vars=[]/\Input.okWide C.prog (w.forCall tape i) .any w.heap.size f i /\
  (OpenSpec.ofChange s).preRow enc C.prog fn conds apart laid (w.forCall tape i).memory i.args/\a.holds C.prog (lone (Frame.enter C.prog f i.args .normal) [] (w.forCall tape i)))
 (runs:∀(W:World) (base:Nat) (args:Array Value) (ds gs:List (DataW H)) (before:List MemPlace),W.ShapedOpen C.prog ->
  (∀(j:Nat) t v,fn.params[j]?=some t->args[j]?=some v->Value.okWide C.prog W .any base t v) ->
  DataW.Whole enc C.prog fn.params.toList s.vars apart W args.toList ds gs before->laidMetH C.prog laid W ->
  ∃M last o w' t',runNT C.prog (M+1) (solo (G (Frame.enter C.prog f args .normal) []) W) #[]=(.ended o w',t')/\runN C.prog M (solo (G (Frame.enter C.prog f args .normal) []) W)=.next last /\
   step C.prog last=.ended o w'/\Conc.Good C.prog (fun v W'=>s.post enc C.prog fn apart fresh handsOn again W args v W') last o w' t') :
 ReturnsInLeavingWide a C os f .any ((OpenSpec.ofChange s).preRow enc C.prog fn conds apart laid) (s.post enc C.prog fn apart fresh handsOn again):=by
 refine returnsInLeavingWide_of_good own started witness ?_
 intro w tape i _ hsh _ hok hpre _;obtain⟨_,_,_,fn',hfn',_,_,_,_,hval⟩:=hok;obtain rfl:fn'=fn:=Aml (hfn'.symm.trans hfn);obtain⟨⟨hp,hl⟩,hz⟩:=hpre;obtain⟨ds,gs,before,hw,_,_⟩:=OpenSpec.pre_parts hp;have hw':=DataW.Whole.of_heap (w':=w.forCall tape i) (by rfl) hw
 obtain⟨M,last,o,w',t',h1,h2,h3,h4⟩:=runs (w.forCall tape i) w.heap.size i.args ds gs before hsh hval hw' (hl.of_heap (by rfl))
 exact⟨M,last,o,w',t',h1,h2,h3,h4.mono fun v hp=>ChangeSpec.post_blind hp⟩
end
theorem Ajy:Tryz.prog.globalNamed "internal/strconv.uint64pow10" = some 3:=by kernel_rfl
theorem Aaw:(Tryz.prog.globals[3]?).map (·.type)=some 258:=by kernel_rfl
theorem Aa3:Tryz.prog.cellsOf 258=20:=by kernel_rfl
theorem A79:Tryz.prog.cellsOf 148=1:=by kernel_rfl
theorem Af9 {W:World}(h:laidMetH Tryz.prog Rows.fnExecuteExactRow.laid W):Lib.TabIs Vp.prog W "internal/strconv.uint64pow10" .u64 Lib.pow10Tab:=by
 have h1:laidMetH Tryz.prog [("internal/strconv.uint64pow10", Rows.laid_internal_strconv_uint64pow10)] W:=h.filter (fun x=>x.1 == "internal/strconv.uint64pow10")
 have h2:laidMet Tryz.prog [("internal/strconv.uint64pow10", (Rows.laid_internal_strconv_uint64pow10:DataW Unit))] W:=h1;rw[show [("internal/strconv.uint64pow10", (Rows.laid_internal_strconv_uint64pow10:DataW Unit))] = [("internal/strconv.uint64pow10", Lib.tabData .u64 Lib.pow10Tab)]from by kernel_rfl]at h2
 have h3:=Lib.tabIs_of_head (rest:=[]) Ajy Aaw Tryz.underlying258 Tryz.underlying148 A79 Aa3 h2;unfold Lib.TabIs World.var? at h3 ⊢;rw[Iq];rw[Ajy]at h3
 exact h3
def Aev (cs:Array Value):Obj->Obj
 | .cells _ t frozen=>.cells cs t frozen
 | o=>o
noncomputable def Md (os:Os):World :=
 { World.doorLaid Tryz.prog 72 os with heap:=(World.doorLaid Tryz.prog 72 os).heap.modify 4 (Aev (Pinned.utf8FirstZ.map (fun n:Nat=>Value.int .u8 n)).toArray) }
theorem A83 (os:Os)(args:Array Value):laidMetH Tryz.prog Rows.fnExecuteExactRow.laid ((Md os).forCall (fun _ _=>0) ⟨#[],args,[]⟩).memory :=
 laidMetH_of_parts3 (fuel:=8) (laidMet_of_run' 8 (by kernel_rfl) (by kernel_rfl)) (by kernel_rfl) (by kernel_rfl)
end Go.Proofs.YtjaehldnlamgkaaGreatDoor
end
namespace Go.Proofs.YtjaehldnlamgkaaGreatDoor
end Go.Proofs.YtjaehldnlamgkaaGreatDoor
