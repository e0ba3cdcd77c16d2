import Derived.Test.YtlfleicchbgcmaaGreatZr2
import Derived.Deep.RegionHeld3
import Derived.Test.YtlfleicchbgcmaaGreatZr0
import Derived.Test.YtlfleicchbgcmaaGreatZrK
set_option linter.all false
set_option maxHeartbeats 16000000
set_option maxRecDepth 100000
namespace Go.Proofs.YtlfleicchbgcmaaGreat
section
open Go.RowKit
theorem A5j (f:Ieee.Format)(x y:Nat):f.order y x=(f.order x y).map Ordering.swap:=by
 unfold Ieee.Format.order
 cases f.read x with
 | nan s t=>cases f.read y<;>rfl
 | infinity s =>
   cases f.read y with
   | nan=>rfl
   | infinity t=>cases s<;>cases t<;>rfl
   | number=>cases s<;>rfl
 | number s m i =>
   cases f.read y with
   | nan=>rfl
   | infinity t=>cases t<;>rfl
   | number t n j =>
     simp only[Ieee.Datum.order,Ary,Aqj];rw[Int.min_comm j i]
     exact Std.OrientedCmp.eq_swap
theorem A74 (f:Ieee.Format)(x y:Nat):(f.order y x == some .lt || f.order y x == some .eq)=(f.order x y == some .gt || f.order x y == some .eq):=by
 rw[A5j f x y]
 cases f.order x y with
 | none=>rfl
 | some o=>cases o<;>rfl
theorem Za (s:Bool)(n drop:Nat):Ieee.Toward.down.cut s n drop<=n / 2^drop+1:=by
 have h:=Flo.A1l s n drop;unfold Ieee.Toward.cut at h ⊢;simp only[Bool.toNat_false,Asf]at h;simp only[h];have:∀b:Bool,b.toNat<=1:=by decide
 have:=this (s && n % (1 <<< min drop (n.log2+2)) != 0)
 omega
theorem A8v {z:Nat}{v:Int}(hz:Flo.D6 Ieee.double z v)(hb:v.natAbs<=1048576*2^Flo.u64) :
 ∃(s:Bool) (m:Nat) (e B:Int),FloatKind.f64.decode z=.number s m e/\Flo.D6 Ieee.double (FloatKind.f64.encode ((Ieee.Datum.number s m e).integral .down)) (B *(2^Flo.u64:Nat)):=by
 have hd:=Flo.Cy hz
 obtain⟨K,hK,hK2⟩:∃K,Ieee.Toward.down.cut (Flo.Il Ieee.double z) (Flo.rm Ieee.double (Flo.Af Ieee.double z) <<<(Ieee.double.leastPlace+Flo.re Ieee.double (Flo.Af Ieee.double z)).toNat) (-(Ieee.double.leastPlace +(Flo.re Ieee.double (Flo.Af Ieee.double z):Int))).toNat=K/\K<=1048577:=by
  refine⟨_,rfl,?_⟩
  refine Ap3 (Za _ _ _) ?_
  rw[Flo.Cp];rw[hd]at hb;generalize Flo.re Ieee.double (Flo.Af Ieee.double z)=e at *;generalize Flo.rm Ieee.double (Flo.Af Ieee.double z)=m at *
  rcases Nat.le_total Flo.u64 e with h|h
  ·obtain⟨r,rfl⟩:∃r,e=r+Flo.u64:=⟨e-Flo.u64,by omega⟩
   have e1:(-(Flo.u64:Int) +((r+Flo.u64:Nat):Int)).toNat=r:=by omega
   have e2:(-(-(Flo.u64:Int) +((r+Flo.u64:Nat):Int))).toNat=0:=by omega
   rw[e1,e2,Atd,Nat.div_one,Asj];rw[Apk,<-Apo]at hb;have:=Ard hb (Ap9 Flo.u64)
   omega
  ·obtain⟨r,hr⟩:∃r,Flo.u64=r+e:=⟨Flo.u64-e,by omega⟩
   have e1:(-(Flo.u64:Int) +(e:Int)).toNat=0:=by omega
   have e2:(-(-(Flo.u64:Int) +(e:Int))).toNat=r:=by omega
   rw[e1,e2,Nat.shiftLeft_zero];rw[hr,Apk,<-Apo]at hb;have h1:=Ard hb (Ap9 e);have h2:m / 2^r<=1048576:=Nat.div_le_of_le_mul (by rw[Apr];exact h1)
   omega
 refine⟨_,_,_,if Flo.Il Ieee.double z then -(K:Int)else K,Flo.Az hz.fin,?_⟩
 show Flo.D6 Ieee.double (Ieee.double.nearest (Flo.Il Ieee.double z) (Ieee.Toward.down.cut (Flo.Il Ieee.double z) (Flo.rm Ieee.double (Flo.Af Ieee.double z) <<<(Ieee.double.leastPlace+Flo.re Ieee.double (Flo.Af Ieee.double z)).toNat) (-(Ieee.double.leastPlace +(Flo.re Ieee.double (Flo.Af Ieee.double z):Int))).toNat) 0) _
 rw[hK];generalize Flo.Il Ieee.double z=s at *
 have hna:((if s then -(K:Int)else K) *((2^Flo.u64:Nat):Int)).natAbs=K*2^Flo.u64:=by
  rw[Apt,Apf]
  cases s<;>simp
 have hpos:(0:Int) <((2^Flo.u64:Nat):Int):=by have:=Ap9 Flo.u64;omega
 refine Flo.Fq (a:=Flo.u64) (b:=0) (Flo.Hs (m:=K) (e:=Flo.u64) hna (by rw[Flo.An];omega) ?_) (by rw[Flo.Cp];omega) (by rw[hna,Atd,Ata]) (fun hneg=>?_) (fun hp=>?_)
 ·rw[Flo.Bp,Flo.Fo];exact Ap2 _ (by omega)
 ·cases s
  ·exfalso
   have:(0:Int) <=(K:Int) *((2^Flo.u64:Nat):Int):=Aqt (by omega) (by omega)
   simp only[Aqb,At6]at hneg
   omega
  ·rfl
 ·cases s
  ·rfl
  ·exfalso
   have:(0:Int) <=(K:Int) *((2^Flo.u64:Nat):Int):=Aqt (by omega) (by omega)
   simp only[Ats,Atb]at hp
   omega
theorem Vo (z:Nat)(v:Int)(hz:Flo.D6 Ieee.double z v)(hb:v.natAbs<=1048576*2^Flo.u64)(w:World):Calls Vp.prog 76 #[.float .f64 z] w fun e w'=>(∃(y:Nat) (B:Int),e=.returned (.float .f64 y)/\Flo.D6 Ieee.double y (B *(2^Flo.u64:Nat)))/\w=w':=by
 obtain⟨s,m,e,B,hd,hv⟩:=A8v hz hb
 have hr:∀w,(callFunc 101 #[.float .f64 z]).run Vp.prog w=.ok (.value (.float .f64 (FloatKind.f64.encode ((Ieee.Datum.number s m e).integral .down)))) w:=fun w=>by
  rw[Na,M5 z s m e hd]
  rfl
 have HV:=Aoy hv;generalize FloatKind.f64.encode ((Ieee.Datum.number s m e).integral .down)=y at *;clear hz hb hv hd
 go_enter Vp.func76,Tryz.ntmps76
 go_wp2
 go_ret
 exact⟨⟨y,B,rfl,HV.out⟩,rfl⟩
end
end Go.Proofs.YtlfleicchbgcmaaGreat
section
namespace Go.Proofs.YtlfleicchbgcmaaGreat
open Go.RowKit
namespace Flo
open Ieee
theorem A3d (x:Nat):Af single (x % 4294967296)=Af single x:=by
 unfold Af;rw[show single.signWeight=2147483648 from by decide]
 omega
theorem A7t (x:Nat):Il single (x % 4294967296)=Il single x:=by
 unfold Il;rw[show single.signWeight=2147483648 from by decide]
 rw[show x % 4294967296 / 2147483648 % 2=x / 2147483648 % 2 from by omega]
theorem A56 (x:Nat):iv single (x % 4294967296)=iv single x:=by unfold iv;rw[A3d,A7t]
theorem Lx (x:Nat):single.read (x % 4294967296)=single.read x:=by
 have h1:=A3d x;have h2:=A7t x;unfold Af at h1;unfold Il at h2;unfold Format.read;rw[h1,h2]
theorem Aku (x y:Nat):FloatKind.f32.format.order (x % 4294967296) y=FloatKind.f32.format.order x y:=by
 show(single.read _).order _=(single.read _).order _
 rw[Lx]
theorem Aom (x y:Nat):FloatKind.f32.format.order x (y % 4294967296)=FloatKind.f32.format.order x y:=by
 show(single.read _).order (single.read _)=(single.read _).order (single.read _)
 rw[Lx]
theorem Agy (x:Nat):floatToFloatBits .f32 (x % 4294967296) .f64=floatToFloatBits .f32 x .f64:=by
 unfold floatToFloatBits;rw[Ap8 (by decide),Ap8 (by decide)]
 rw[show FloatKind.decode .f32 (x % 4294967296)=FloatKind.decode .f32 x from Lx x]
theorem Alh (x y:Nat):floatBits .add .f32 (x % 4294967296) y=floatBits .add .f32 x y:=by
 show single.add _ _=single.add _ _
 unfold Format.add;rw[Lx]
theorem mulM (x y:Nat):floatBits .mul .f32 (x % 4294967296) y=floatBits .mul .f32 x y:=by
 show single.mul _ _=single.mul _ _
 unfold Format.mul;rw[Lx]
theorem Ns (x:Nat):E8 (x % 4294967296)=E8 x:=by unfold E8;simp only[Aku]
theorem Nz (x d:Nat):Bi (x % 4294967296) d=Bi x d:=by unfold Bi;rw[Ns,A56]
end Flo
theorem Tb (x d:Nat)(hd:d<=11)(h:Flo.Bi x d=true)(w:World):Calls Vp.prog 55 #[.float .f32 x,.int .i64 d] w fun e w'=>e=.returned (.bool true)/\w=w':=by
 have hx:x % 4294967296<4294967296:=Ara _ (by decide)
 rw[<-Flo.Nz]at h;obtain⟨A,hA,hb⟩:=Flo.Jv hx hd h;have hdp:2^d<=2^11:=Api (by omega) hd
 obtain⟨y1,h1,v1⟩:=Flo.Dv hA;have hD:Flo.D6 Ieee.double (floatOfInt .f64 ((2^d:Nat):Int)) (((2^d:Nat):Int) *(2^Flo.u64:Nat)):=Flo.Dr (k:=.f64) Flo.Cp _ (by rw[Apf];show _<2*Ieee.double.binade;rw[Flo.An];omega) (by show(Flo.u64+2)*Ieee.double.binade<=Ieee.double.infRung;rw[Flo.Bp,Flo.Fo];exact Ap2 _ (by omega))
 have hrep:Flo.Pm Ieee.double (A *(2^Flo.u64:Nat)):=by
  refine Flo.Hs (m:=A.natAbs) (e:=Flo.u64) (by rw[Apt,Apf]) (by rw[Flo.An];omega) ?_
  rw[Flo.Bp,Flo.Fo]
  exact Ap2 _ (by omega)
 have hc:A *(2^(Flo.u32-d):Nat) *(2^Flo.Hc:Nat) *(((2^d:Nat):Int) *(2^Flo.u64:Nat))=A *(2^Flo.u64:Nat) *(2^Flo.u64:Nat):=by
  have e:(2^(Flo.u32-d)*2^Flo.Hc*2^d:Nat)=2^Flo.u64:=by
   rw[<-Apk,<-Apk]
   congr 1
   rw[Flo.Ga,Flo.O1,Flo.Fo];omega
  have e2:((2^(Flo.u32-d):Nat):Int) *(2^Flo.Hc:Nat) *(2^d:Nat)=(2^Flo.u64:Nat):=by
   have:=congrArg (fun x:Nat=>(x:Int)) e
   simp only[Apx]at this
   exact this
  generalize ((2^(Flo.u32-d):Nat):Int)=P at *;generalize ((2^Flo.Hc:Nat):Int)=Q at *;generalize ((2^Flo.u64:Nat):Int)=R at *;generalize ((2^d:Nat):Int)=S at *
  calc A*P*Q *(S*R)=A *(P*Q*S)*R:=by simp only[Aqf]
   _=A*R*R:=by rw[e2]
 obtain⟨y,hy,v2⟩:=Flo.Hq (f:=Ieee.double) (c:=A *(2^Flo.u64:Nat)) Flo.Cp v1 hD hc hrep;have hF:=Aoy (Oq y A v2);have hee:Hid (∀t,Flo.D6 Ieee.double t (A *(2^Flo.u64:Nat)) ->(FloatKind.f64.format.order y t == some .eq)=true):=fun t ht=>by rw[Flo.Cq (k:=.f64) v2 ht];simp
 obtain⟨q,hq⟩:∃q:Int,wrap64 (2^d)=q:=⟨_,rfl⟩;have hqd:((2^d:Nat):Int)=q:=by rw[<-hq,M7 d hd]
 rw[hqd]at hy;rw[Flo.Agy]at h1;have g1:=fun w=>Ar2 (P:=Vp.prog) w 74 129 .f32 .f64 _ _ (by kernel_rfl) (Vp.Dw Tryz.underlying129) h1
 have g2:=fun w=>Aqa (P:=Vp.prog) w .mul 129 .f64 _ _ _ hy
 have hw:=Flo.Ih hx (by unfold Flo.Bi at h;rw[Ap7]at h;exact h.1)
 have t1:(FloatKind.f32.format.order 3229614080 (x % 4294967296) == some .lt || FloatKind.f32.format.order 3229614080 (x % 4294967296) == some .eq)=true:=by
  rw[Flo.G0 (k:=.f32) Flo.Ei hw.1,Flo.Cq (k:=.f32) Flo.Ei hw.1];have:=hw.2;simp only[Ase,Apm];generalize 2^Flo.u32=U at *
  omega
 have t2:(FloatKind.f32.format.order (x % 4294967296) 1082130432 == some .lt || FloatKind.f32.format.order (x % 4294967296) 1082130432 == some .eq)=true:=by
  unfold Flo.Bi Flo.E8 at h;rw[Ap7,Ap7]at h
  exact h.1.2
 rw[Flo.Aom]at t1;rw[Flo.Aku]at t2;clear h hA hb hdp h1 v1 hD hrep hc hy v2 hqd hw hx
 go_enter Vp.func55,Tryz.ntmps55
 go_wp2_with (go_at_call 76;refine(hF.out _).mono ?_;rintro e w' ⟨⟨t,rfl,ht⟩,rfl⟩;have hte:=hee.out t ht;clear ht)
 go_ret
 exact⟨rfl,rfl⟩
theorem Ta (x d:Nat)(hd:d<=11)(h:Flo.Bi x d=false)(w:World):Calls Vp.prog 55 #[.float .f32 x,.int .i64 d] w fun e w'=>e=.returned (.bool false)/\w=w':=by
 unfold Flo.Bi at h
 cases hin:Flo.E8 x with
 | false =>
   unfold Flo.E8 at hin;rw[<-A74]at hin
   cases t1:(FloatKind.f32.format.order 3229614080 x == some .lt || FloatKind.f32.format.order 3229614080 x == some .eq)with
   | false =>
     clear h hin
     go_enter Vp.func55,Tryz.ntmps55
     go_wp2
     go_ret
     exact⟨rfl,rfl⟩
   | true =>
     rw[t1,Ash]at hin;have t2:=hin;clear h hin
     go_enter Vp.func55,Tryz.ntmps55
     go_wp2
     go_ret
     exact⟨rfl,rfl⟩
 | true =>
   rw[hin,Ash,Asg]at h;obtain⟨hv,hb⟩:=Flo.Ih (Ara x (by decide)) ((Flo.Ns x).trans hin)
   rw[Flo.A56]at hv hb;obtain⟨v,hvv⟩:∃v,Flo.iv Ieee.single x=v:=⟨_,rfl⟩;rw[hvv]at hv hb h;have hdp:2^d<=2^11:=Api (by omega) hd
   obtain⟨y1,h1,v1⟩:=Flo.Dv hv;have hD:Flo.D6 Ieee.double (floatOfInt .f64 ((2^d:Nat):Int)) (((2^d:Nat):Int) *(2^Flo.u64:Nat)):=Flo.Dr (k:=.f64) Flo.Cp _ (by rw[Apf];show _<2*Ieee.double.binade;rw[Flo.An];omega) (by show(Flo.u64+2)*Ieee.double.binade<=Ieee.double.infRung;rw[Flo.Bp,Flo.Fo];exact Ap2 _ (by omega))
   have hdg:=Flo.Cy hv;have hre:=Flo.A36 (e:=254) hv.fin (by decide)
   have hrm:=Flo.P7 Ieee.single (Flo.Af Ieee.single (x % 4294967296));rw[Flo.By]at hrm
   have hrep:Flo.Pm Ieee.double (v *(2^Flo.Hc:Nat) *(2^d:Nat)):=by
    refine Flo.Hs (m:=Flo.rm Ieee.single (Flo.Af Ieee.single (x % 4294967296))) (e:=Flo.re Ieee.single (Flo.Af Ieee.single (x % 4294967296))+Flo.Hc+d) ?_ (by rw[Flo.An];omega) ?_
    ·rw[Apt,Apt,Apf,Apf,hdg,Apk,Apk];simp only[Apo]
    ·rw[Flo.Bp,Flo.O1];exact Ap2 _ (by omega)
   have hc:v *(2^Flo.Hc:Nat) *(((2^d:Nat):Int) *(2^Flo.u64:Nat))=v *(2^Flo.Hc:Nat) *(2^d:Nat) *(2^Flo.u64:Nat):=by
    simp only[Aqf]
   obtain⟨y,hy,v2⟩:=Flo.Hq (f:=Ieee.double) (c:=v *(2^Flo.Hc:Nat) *(2^d:Nat)) Flo.Cp v1 hD hc hrep;have hU:(2^Flo.u64:Nat)=2^Flo.u32*2^Flo.Hc:=by rw[<-Apk];congr 1
   have hV:(v *(2^Flo.Hc:Nat) *(2^d:Nat)).natAbs<=1048576*2^Flo.u64:=by
    rw[Apt,Apt,Apf,Apf,hU]
    calc v.natAbs*2^Flo.Hc*2^d <=(4*2^Flo.u32)*2^Flo.Hc*2^11:=Aqh (Ap2 _ hb) hdp
     _=8192 *(2^Flo.u32*2^Flo.Hc):=by rw[Apr,<-Apo,<-Apo,Apo]
     _<=1048576 *(2^Flo.u32*2^Flo.Hc):=Ap2 _ (by omega)
   have hne:∀B:Int,v *(2^Flo.Hc:Nat) *(2^d:Nat)≠B *(2^Flo.u64:Nat):=by
    intro B hB
    apply h
    rw[hU,Apx,<-Aqf,Int.mul_right_comm v]at hB;have hp:((2^Flo.Hc:Nat):Int)≠0:=by have:=Ap9 Flo.Hc;omega
    have:=Int.eq_of_mul_eq_mul_right hp hB;rw[this]
    exact Int.mul_emod_left _ _
   have hF:=Aoy (Vo y _ v2 hV);have hee:Hid (∀(t:Nat) (B:Int),Flo.D6 Ieee.double t (B *(2^Flo.u64:Nat)) ->(FloatKind.f64.format.order y t == some .eq)=false):=fun t B ht=>by rw[Flo.Cq (k:=.f64) v2 ht];simpa using hne B
   obtain⟨q,hq⟩:∃q:Int,wrap64 (2^d)=q:=⟨_,rfl⟩;have hqd:((2^d:Nat):Int)=q:=by rw[<-hq,M7 d hd]
   rw[hqd]at hy;rw[Flo.Agy]at h1;have g1:=fun w=>Ar2 (P:=Vp.prog) w 74 129 .f32 .f64 _ _ (by kernel_rfl) (Vp.Dw Tryz.underlying129) h1
   have g2:=fun w=>Aqa (P:=Vp.prog) w .mul 129 .f64 _ _ _ hy
   unfold Flo.E8 at hin;rw[<-A74,Ap7]at hin;obtain⟨t1,t2⟩:=hin;clear h hv hb hvv hdp h1 v1 hD hdg hre hrm hrep hc hy v2 hqd hU hV hne
   go_enter Vp.func55,Tryz.ntmps55
   go_wp2_with (go_at_call 76;refine(hF.out _).mono ?_;rintro e w' ⟨⟨t,B,rfl,ht⟩,rfl⟩;have hte:=hee.out t B ht;clear ht)
   go_ret
   exact⟨rfl,rfl⟩
theorem Lg (x d:Nat)(hd:d<=11)(w:World):Calls Vp.prog 55 #[.float .f32 x,.int .i64 d] w fun e w'=>e=.returned (.bool (Flo.Bi x d))/\w=w':=by
 cases h:Flo.Bi x d with
 | true=>exact Tb x d hd h w
 | false=>exact Ta x d hd h w
theorem Vs (cx cy:Nat)(deep size:Int)(w:World):Calls Vp.prog 31 #[.complex .f32 cx cy,.int .i64 deep,.int .i64 size] w fun e w'=>e=.returned (.bool (Bh cx cy deep size))/\w=w':=by
 by_cases hin:0<=deep/\deep<=10/\1<=size/\size<=8
 ·obtain⟨d,rfl⟩:=Aqg hin.1;have hX:=Aoy (Lg cx d (by omega))
  have hY:=Aoy (Lg cy d (by omega))
  have HP:Hid (Bh cx cy d size=(Flo.Bi cx d && Flo.Bi cy d)):=by
   show _=_
   unfold Bh Gt;rw[Aqk,Apj hin.1,Apj hin.2.1,Apj hin.2.2.1,Apj hin.2.2.2]
   rfl
  have a1:decide ((d:Int)<0)=false:=by simp
  have a2:decide (10 <(d:Int))=false:=by simp;omega
  have a3:decide (size<1)=false:=by simp;omega
  have a4:decide (8<size)=false:=by simp;omega
  rw[HP.out];generalize Flo.Bi cx d=b1 at *;generalize Flo.Bi cy d=b2 at *;clear HP hin
  cases b1<;>cases b2
  all_goals
   go_enter Vp.func31,Tryz.ntmps31
   go_wp2_with (first |(go_at_call 55;(with_reducible refine(hX.out _).mono ?_);rintro e w' ⟨rfl,rfl⟩) |(go_at_call 55;(with_reducible refine(hY.out _).mono ?_);rintro e w' ⟨rfl,rfl⟩))
   go_ret
   exact⟨rfl,rfl⟩
 ·have HP:Hid (Bh cx cy deep size=false):=by
   show _=false
   cases h:Bh cx cy deep size with
   | false=>rfl
   | true=>exact absurd (Bs h) (by omega)
  rw[HP.out];clear HP
  by_cases a1:deep<0
  ·have a1:=Apj a1
   go_enter Vp.func31,Tryz.ntmps31
   go_wp2
   go_ret
   exact⟨rfl,rfl⟩
  ·by_cases a2:10<deep
   ·have a1:=Apy a1;have a2:=Apj a2
    go_enter Vp.func31,Tryz.ntmps31
    go_wp2
    go_ret
    exact⟨rfl,rfl⟩
   ·by_cases a3:size<1
    ·have a1:=Apy a1;have a2:=Apy a2;have a3:=Apj a3
     go_enter Vp.func31,Tryz.ntmps31
     go_wp2
     go_ret
     exact⟨rfl,rfl⟩
    ·have a4:8<size:=by omega
     have a1:=Apy a1;have a2:=Apy a2;have a3:=Apy a3;have a4:=Apj a4;clear hin
     go_enter Vp.func31,Tryz.ntmps31
     go_wp2
     go_ret
     exact⟨rfl,rfl⟩
theorem Qq (x d:Nat)(hd:d<=11)(w:World):Calls Vp.prog 66 #[.float .f32 x,.int .i64 d] w fun e w'=>e=.returned (.bool (Flo.Bi x d))/\Au w w':=by
 have hdp:2^d<=2^11:=Api (by omega) hd
 obtain⟨q,hq⟩:∃q:Int,wrap64 (2^d)=q:=⟨_,rfl⟩;have hqd:((2^d:Nat):Int)=q:=by rw[<-hq,M7 d hd]
 cases h4:Flo.E8 x with
 | false =>
   have hw:Flo.Bi x d=false:=by unfold Flo.Bi;rw[h4];rfl
   rw[hw];obtain⟨y,w1,h1,_,d1⟩:=Flo.Ct (P:=Vp.prog) .mul (by simp) 74 .f32 x (floatOfInt .f32 q) w
   have HD:=Aoy d1;unfold Flo.E8 at h4;clear d1 hqd hdp hw
   cases b1:(FloatKind.f32.format.order x 3229614080 == some .gt || FloatKind.f32.format.order x 3229614080 == some .eq)with
   | false =>
     clear h4
     go_enter Vp.func66,Tryz.ntmps66
     go_wp2
     go_ret
     exact⟨rfl,HD.out⟩
   | true =>
     rw[b1,Ash]at h4
     go_enter Vp.func66,Tryz.ntmps66
     go_wp2
     go_ret
     exact⟨rfl,HD.out⟩
 | true =>
   obtain⟨y,n,h1,h2,-,-,h3⟩:=Flo.R8 (Ara x (by decide)) hd ((Flo.Ns x).trans h4)
   rw[Flo.mulM]at h1;rw[Flo.A56]at h3;have hw:Flo.Bi x d=(FloatKind.f32.format.order (floatOfInt .f32 n) y == some .eq):=by unfold Flo.Bi;rw[h4,h3];rfl
   rw[hw];rw[hqd]at h1;have g1:∀w,(binOp .mul 74 (.float .f32 x) (.float .f32 (floatOfInt .f32 q))).run Vp.prog w=.ok (.float .f32 y) w:=fun w=>Aqa w .mul _ .f32 _ _ _ h1
   have g2:∀w,(convert 74 3 (.float .f32 y)).run Vp.prog w=.ok (.int .i64 n) w:=fun w=>Atx w _ _ .f32 .i64 _ _ (by kernel_rfl) (Vp.Dw Tryz.underlying3) h2
   unfold Flo.E8 at h4;rw[Ap7]at h4;obtain⟨b1,b2⟩:=h4;clear h1 h2 h3 hw hqd hdp
   cases b3:(FloatKind.f32.format.order (floatOfInt .f32 n) y == some .eq)with
   | false =>
     go_enter Vp.func66,Tryz.ntmps66
     go_wp2
     go_ret
     exact⟨rfl,Au.refl _⟩
   | true =>
     go_enter Vp.func66,Tryz.ntmps66
     go_wp2
     go_ret
     exact⟨rfl,Au.refl _⟩
theorem Iz (cx cy:Nat)(deep size:Int)(w:World):Calls Vp.prog 44 #[.complex .f32 cx cy,.int .i64 deep,.int .i64 size] w fun e w'=>e=.returned (.bool (Bh cx cy deep size))/\Au w w':=by
 unfold Bh
 cases h1:Gt deep 0 10 with
 | false =>
   go_enter Vp.func44,Tryz.ntmps44
   go_wp2_with (go_at_call 19;refine(Cb _ _ _ _).mono ?_;rintro e w' ⟨rfl,rfl⟩)
   go_ret
   exact⟨rfl,Au.refl _⟩
 | true =>
   cases h2:Gt size 1 8 with
   | false =>
     go_enter Vp.func44,Tryz.ntmps44
     go_wp2_with (go_at_call 19;refine(Cb _ _ _ _).mono ?_;rintro e w' ⟨rfl,rfl⟩)
     go_ret
     exact⟨rfl,Au.refl _⟩
   | true =>
     obtain⟨d,rfl,hd⟩:∃d:Nat,deep=d/\d<=11:=by
      unfold Gt at h1;simp only[Ap7,Apm]at h1
      exact⟨deep.toNat,by omega,by omega⟩
     rw[Aqk];have HX:=Aoy (fun w=>Qq cx d hd w)
     have HY:=Aoy (fun w=>Qq cy d hd w)
     cases h3:Flo.Bi cx d with
     | false =>
       rw[h3]at HX
       go_enter Vp.func44,Tryz.ntmps44
       go_wp2_with (first |(go_at_call 19;refine(Cb _ _ _ _).mono ?_;rintro e w' ⟨rfl,rfl⟩) |(go_at_call 66;refine(HX.out _).mono ?_;rintro e w1 ⟨rfl,d1⟩;have H1:=Aoy d1;clear d1))
       go_ret
       exact⟨rfl,H1.out⟩
     | true =>
       rw[h3]at HX
       cases h4:Flo.Bi cy d with
       | false =>
         rw[h4]at HY
         go_enter Vp.func44,Tryz.ntmps44
         go_wp2_with (first |(go_at_call 19;refine(Cb _ _ _ _).mono ?_;rintro e w' ⟨rfl,rfl⟩) |(go_at_call 66;refine(HX.out _).mono ?_;rintro e w1 ⟨rfl,d1⟩;have H1:=Aoy d1;clear d1 HX) |(go_at_call 66;refine(HY.out _).mono ?_;rintro e w2 ⟨rfl,d1⟩;have H2:=Aoy (H1.out.trans d1);clear d1))
         go_ret
         exact⟨rfl,H2.out⟩
       | true =>
         rw[h4]at HY
         go_enter Vp.func44,Tryz.ntmps44
         go_wp2_with (first |(go_at_call 19;refine(Cb _ _ _ _).mono ?_;rintro e w' ⟨rfl,rfl⟩) |(go_at_call 66;refine(HX.out _).mono ?_;rintro e w1 ⟨rfl,d1⟩;have H1:=Aoy d1;clear d1 HX) |(go_at_call 66;refine(HY.out _).mono ?_;rintro e w2 ⟨rfl,d1⟩;have H2:=Aoy (H1.out.trans d1);clear d1))
         go_ret
         exact⟨rfl,H2.out⟩
end Go.Proofs.YtlfleicchbgcmaaGreat
end
namespace Go.Proofs.YtlfleicchbgcmaaGreat
section
def Aw (l h:Int):Int:=if l<=0/\0<=h then 0 else min (l*l) (h*h)
def Ba (l h:Int):Int:=max (l*l) (h*h)
def Kz (a k:Int):Int:=-((-a) / k)
structure Bx where
 a:Int
 b:Int
 c:Int
 d:Int
def Bx.val (x:Bx):Value:=Ajg x.a x.b x.c x.d
def Bx.ok (x:Bx):Bool:=Bl x.a x.b x.c x.d
theorem Bx.bd {x:Bx}(h:x.ok=true):-134217728<=x.a/\x.a<=x.b/\x.b<=134217728/\-134217728<=x.c/\x.c<=x.d/\x.d<=134217728:=by
 unfold Bx.ok Bl Gt at h;simp only[Ap7,Apm]at h
 omega
def Qs (x:Bx):Int:=min (min (x.a*x.c) (x.a*x.d)) (min (x.b*x.c) (x.b*x.d))
def Qr (x:Bx):Int:=max (max (x.a*x.c) (x.a*x.d)) (max (x.b*x.c) (x.b*x.d))
def Bx.sq (x:Bx):Bx:=⟨(Aw x.a x.b-Ba x.c x.d) / 16777216,Kz (Ba x.a x.b-Aw x.c x.d) 16777216,2*Qs x / 16777216,Kz (2*Qr x) 16777216⟩
def Bx.add (x y:Bx):Bx:=⟨x.a+y.a,x.b+y.b,x.c+y.c,x.d+y.d⟩
def Bx.next (c z:Bx):Option Bx:=if z.sq.ok=true then(if(z.sq.add c).ok=true then some (z.sq.add c)else none)else none
def Dx (c:Bx):Nat->Option Bx
 | 0=>some ⟨0,0,0,0⟩
 | k+1=>(Dx c k).bind (Bx.next c)
def Zu (z:Bx):Int:=Aw z.a z.b+Aw z.c z.d
def nHi (z:Bx):Int:=Ba z.a z.b+Ba z.c z.d
def Kv (c:Bx)(k:Nat):Bool:=match Dx c k with
 | some z=>decide (1125899906842624<Zu z)
 | none=>false
def whB (c:Bx)(M:Nat):Bool:=(List.range (M+1)).any (Kv c)
def Bx.coarse (x:Bx):Bx:=⟨x.a / 4096,Kz x.b 4096,x.c / 4096,Kz x.d 4096⟩
def Gy (x:Bx):Int:=Ba (x.coarse.a+4096) (x.coarse.b+4096)+Ba x.coarse.c x.coarse.d-1048576
def Kp (x:Bx):Int:=Ba (x.coarse.a-1024) (x.coarse.b-1024)+Ba x.coarse.c x.coarse.d +(x.coarse.b-1024)*4096
def Gx (x:Bx):Int:=(if Kp x<0 then Aw (x.coarse.a-1024) (x.coarse.b-1024)+Aw x.coarse.c x.coarse.d else Ba (x.coarse.a-1024) (x.coarse.b-1024)+Ba x.coarse.c x.coarse.d)*Kp x-Aw x.coarse.c x.coarse.d*4194304
def stB (x:Bx)(M:Nat):Int:=if Gx x<=0\/Gy x<=0 then 1 else if whB x M=true then -1 else 0
theorem E0 (x:Int):0<=x*x:=by
 rcases Aro 0 x with h|h
 ·exact Aqt h h
 ·exact Int.mul_nonneg_of_nonpos_of_nonpos h h
theorem Ui {x k:Int}(h1:-k<=x)(h2:x<=k):x*x<=k*k:=by
 rcases Aro 0 x with h|h
 ·exact Aqy h2 h2 h (by omega)
 ·have:(-x) *(-x)<=k*k:=Aqy (by omega) (by omega) (by omega) (by omega)
  rwa [Arm]at this
theorem Hf {x y k:Int}(h1:-k<=x)(h2:x<=k)(h3:-k<=y)(h4:y<=k):-(k*k)<=x*y/\x*y<=k*k:=by
 have hk:0<=k:=by omega
 have key:∀p q:Int,0<=p->p<=k->0<=q->q<=k->0<=p*q/\p*q<=k*k:=fun p q a b c d=>⟨Aqt a c,Aqy b d c hk⟩
 rcases Aro 0 x with h|h<;>rcases Aro 0 y with g|g
 ·have:=key x y h h2 g h4
  omega
 ·have:=key x (-y) h h2 (by omega) (by omega)
  rw[Int.mul_neg]at this
  omega
 ·have:=key (-x) y (by omega) (by omega) g h4
  rw[Atb]at this
  omega
 ·have:=key (-x) (-y) (by omega) (by omega) (by omega) (by omega)
  rw[Arm]at this
  omega
theorem Fb {l h k:Int}(h1:-k<=l)(h2:l<=k):0<=Aw l h/\Aw l h<=k*k:=by
 have a:=E0 l;have b:=E0 h;have c:=Ui h1 h2;unfold Aw
 split<;>omega
theorem Dm {l h k:Int}(h1:-k<=l)(h2:l<=k)(h3:-k<=h)(h4:h<=k):0<=Ba l h/\Ba l h<=k*k:=by
 have a:=E0 l;have b:=E0 h;have c:=Ui h1 h2;have d:=Ui h3 h4;unfold Ba
 omega
end
section
open Go.RowKit
theorem Fv {x:Int}(h1:-9223372036854775808<=x)(h2:x<=9223372036854775807):wrap64 x=x:=IntWalk.wrap64_in _ ⟨h1,h2⟩
theorem Af6 (a b:Int)(hb:0<b):a / b=if a.tmod b≠0/\a<0 then a.tdiv b-1 else a.tdiv b:=by
 rcases Aro 0 a with h|h
 ·rw[Ap8 (by omega),Arf h]
 ·by_cases ha:a=0
  ·subst ha;simp
  have h1:a.tdiv b=-((-a) / b):=by
   have:a.tdiv b=-((-a).tdiv b):=by rw[Int.neg_tdiv,Int.neg_neg]
   rw[this,Arf (by omega)]
  have h2:a.tmod b=-((-a) % b):=by
   have:a.tmod b=-((-a).tmod b):=by rw[Int.neg_tmod,Int.neg_neg]
   rw[this,Int.tmod_eq_emod_of_nonneg (by omega)]
  rw[h1,h2];have e1:=Int.mul_ediv_add_emod (-a) b;have e2:=Int.emod_nonneg (-a) (Int.ne_of_gt hb);have e3:=Int.emod_lt_of_pos (-a) hb;generalize (-a) / b=q at *;generalize (-a) % b=r at *
  split
  ·rw[Int.ediv_eq_iff_of_pos hb];rw[Int.sub_mul,Atb,Aqi q b]
   omega
  ·rename_i hn
   rw[Int.ediv_eq_iff_of_pos hb,Atb,Aqi q b];have:r=0:=by omega
   omega
theorem Ii (a b:Int)(hb:0<b)(h1:-4611686018427387904<=a)(h2:a<=4611686018427387904)(w:World):Calls Vp.prog 121 #[.int .i64 a,.int .i64 b] w fun e w'=>e=.returned (.int .i64 (a / b))/\w=w':=by
 have hf:=Af6 a b hb;have hz:(b == 0)=false:=by rw[beq_eq_false_iff_ne];omega
 have hq1:-4611686018427387904<=a.tdiv b/\a.tdiv b<=4611686018427387904:=by
  have e1:(a.tdiv b).natAbs<=a.natAbs:=by rw[Int.natAbs_tdiv];exact Nat.div_le_self _ _
  omega
 obtain⟨q,hq⟩:∃q,a.tdiv b=q:=⟨_,rfl⟩;obtain⟨m,hm⟩:∃m,a.tmod b=m:=⟨_,rfl⟩;obtain⟨r,hr⟩:∃r,a / b=r:=⟨_,rfl⟩;rw[hq,hm,hr]at hf;rw[hq]at hq1;rw[hr];have HB:=Aoy hq1;have hw1:wrap64 q=q:=Fv (by omega) (by omega)
 have hw2:wrap64 (q-1)=q-1:=Fv (by omega) (by omega)
 have hb':b≠0:=by omega
 clear hq1 hr hb
 by_cases h0:m=0
 ·have t1:(m != 0)=false:=by rw[h0];rfl
  rw[Ap8 (by omega)]at hf
  subst hf;clear h0 h1 h2
  go_enter Vp.func121,Tryz.ntmps121
  go_wp2
  go_ret
  exact⟨Mp (by first|rfl|exact hw1),rfl⟩
 ·have t1:(m != 0)=true:=by simpa using h0
  by_cases h3:a<0
  ·rw[Apb ⟨h0,h3⟩]at hf;subst hf;clear h0 h1 h2
   go_enter Vp.func121,Tryz.ntmps121
   go_wp2
   go_ret
   exact⟨Mp (by first|rfl|exact hw2|rw[hw1,hw2]),rfl⟩
  ·rw[Ap8 (by omega)]at hf
   subst hf;clear h0 h1 h2
   go_enter Vp.func121,Tryz.ntmps121
   go_wp2
   go_ret
   exact⟨Mp (by first|rfl|exact hw1),rfl⟩
theorem Mh (a b:Int)(hb:0<b)(h1:-4611686018427387904<=a)(h2:a<=4611686018427387904)(w:World):Calls Vp.prog 122 #[.int .i64 a,.int .i64 b] w fun e w'=>e=.returned (.int .i64 (Kz a b))/\w=w':=by
 have hw1:wrap64 (-a)=-a:=Fv (by omega) (by omega)
 have hq1:-4611686018427387904 <=(-a) / b /\(-a) / b<=4611686018427387904:=by
  have e1:=Int.mul_ediv_add_emod (-a) b;have e2:=Int.emod_nonneg (-a) (Int.ne_of_gt hb);have e3:=Int.emod_lt_of_pos (-a) hb
  constructor
  ·apply Int.le_ediv_of_mul_le hb
   have:-4611686018427387904*b<=-4611686018427387904*1:=Atu (by omega) (by omega)
   omega
  ·apply Int.ediv_le_of_le_mul hb
   have:4611686018427387904*1<=4611686018427387904*b:=Asl (by omega) (by omega)
   omega
 have hw2:wrap64 (-((-a) / b))=Kz a b:=Fv (by omega) (by omega)
 have HF:=Aoy (Ii (-a) b hb (by omega) (by omega))
 clear hq1 h1 h2 hb;rw[<-hw1]at HF;obtain⟨q,hq⟩:∃q,wrap64 (-a) / b=q:=⟨_,rfl⟩;rw[hq]at HF;rw[hw1]at hq;rw[hq]at hw2;clear hw1 hq
 go_enter Vp.func122,Tryz.ntmps122
 go_wp2_with fail
 refine(HF.out _).mono ?_
 rintro e w1 ⟨rfl,rfl⟩
 go_wp2
 go_ret
 exact⟨Mp (by first|rfl|exact hw2),rfl⟩
theorem Dy (a b:Int)(h1:-1000000000<=a)(h2:a<=1000000000)(h3:-1000000000<=b)(h4:b<=1000000000)(w:World):Calls Vp.prog 95 #[.int .i64 a,.int .i64 b] w fun e w'=>e=.returned (.tuple #[.int .i64 (Aw a b),.int .i64 (Ba a b)])/\w=w':=by
 have a1:=E0 a;have a2:=Ui h1 h2;have b1:=E0 b;have b2:=Ui h3 h4;obtain⟨p,hp,hpv⟩:∃p,wrap64 (a*a)=p/\p=a*a:=⟨_,rfl,Fv (by omega) (by omega)⟩
 obtain⟨q,hq,hqv⟩:∃q,wrap64 (b*b)=q/\q=b*b:=⟨_,rfl,Fv (by omega) (by omega)⟩
 have HV:Hid (Aw a b=(if a<=0/\0<=b then 0 else min p q)/\Ba a b=max p q):=by rw[hpv,hqv];exact⟨rfl,rfl⟩
 clear a1 a2 b1 b2 h1 h2 h3 h4 hpv hqv;generalize Aw a b=r at *;generalize Ba a b=s at *;obtain⟨m,hm⟩:∃m,(if q<p then q else p)=m:=⟨_,rfl⟩
 obtain⟨n,hn⟩:∃n,(if p<q then q else p)=n:=⟨_,rfl⟩
 have HM:Hid (m=min p q):=by show m=_;rw[<-hm];split<;>omega
 have HN:Hid (n=max p q):=by show n=_;rw[<-hn];split<;>omega
 by_cases h0:a<=0
 ·by_cases h1:0<=b
  ·have h:=HV.out;rw[Apb ⟨h0,h1⟩,<-HN.out]at h;obtain⟨rfl,rfl⟩:=h;clear HV HM HN
   go_enter Vp.func95,Tryz.ntmps95
   go_wp2
   all_goals
    go_ret2
    exact⟨rfl,rfl⟩
  ·have h:=HV.out;rw[Ap8 (by omega),<-HN.out,<-HM.out]at h
   obtain⟨rfl,rfl⟩:=h;clear HV HM HN
   go_enter Vp.func95,Tryz.ntmps95
   go_wp2
   all_goals
    go_ret2
    exact⟨rfl,rfl⟩
 ·have h:=HV.out;rw[Ap8 (by omega),<-HN.out,<-HM.out]at h
  obtain⟨rfl,rfl⟩:=h;clear HV HM HN
  go_enter Vp.func95,Tryz.ntmps95
  go_wp2
  all_goals
   go_ret2
   exact⟨rfl,rfl⟩
end
section
open Go.RowKit
def Fx (x:Bx):Value:=if x.ok=true then .tuple #[x.val,.bool true]else .tuple #[Ajg 0 0 0 0,.bool false]
theorem K6 (x:Bx):∃(p q r s:Int) (t:Bool),Fx x=.tuple #[.agg #[.int .i64 p,.int .i64 q,.int .i64 r,.int .i64 s],.bool t]:=by
 unfold Fx
 split
 ·exact⟨_,_,_,_,_,rfl⟩
 ·exact⟨_,_,_,_,_,rfl⟩
theorem Xh (a b c d:Int)(w:World):Calls Vp.prog 93 #[.agg #[.int .i64 a,.int .i64 b,.int .i64 c,.int .i64 d]] w fun e w'=>e=.returned (Fx ⟨a,b,c,d⟩)/\Below w.heap.size w w':=by
 have X0:A9 w w.heap.size #[.int .i64 a,.int .i64 b,.int .i64 c,.int .i64 d] 93 ((w.alloc (.cells #[.int .i64 a,.int .i64 b,.int .i64 c,.int .i64 d] 93)).alloc (.cells #[.int .i64 0,.int .i64 0,.int .i64 0,.int .i64 0] 93)):=(A9.new w _ _).alloc _
 have X1:A9 w (w.heap.size+1) #[.int .i64 0,.int .i64 0,.int .i64 0,.int .i64 0] 93 ((w.alloc (.cells #[.int .i64 a,.int .i64 b,.int .i64 c,.int .i64 d] 93)).alloc (.cells #[.int .i64 0,.int .i64 0,.int .i64 0,.int .i64 0] 93)):=by
  have:=(A9.new (w.alloc (.cells #[.int .i64 a,.int .i64 b,.int .i64 c,.int .i64 d] 93)) #[.int .i64 0,.int .i64 0,.int .i64 0,.int .i64 0] 93).up (w0:=w) ((Aph _ _).alloc (Ap0 _) _)
  rwa [Apl]at this
 have HF:Hid (∀W,Below w.heap.size w W->∀u0 u1 u2 u3,Below w.heap.size w ((((W.setCell ⟨w.heap.size+1,0,none⟩ u0).setCell ⟨w.heap.size+1,1,none⟩ u1).setCell ⟨w.heap.size+1,2,none⟩ u2).setCell ⟨w.heap.size+1,3,none⟩ u3)):=fun W h u0 u1 u2 u3 =>
  (((h.setCell (p:=⟨w.heap.size+1,0,none⟩) (by simp) _).setCell (p:=⟨w.heap.size+1,1,none⟩) (by simp) _).setCell (p:=⟨w.heap.size+1,2,none⟩) (by simp) _).setCell (p:=⟨w.heap.size+1,3,none⟩) (by simp) _
 go_enter Vp.func93,Tryz.ntmps93
 go_wp2_with fail
 refine(Cf a b c d _).mono ?_
 rintro e w1 ⟨rfl,hb⟩;replace X0:=X0.step hb;replace X1:=X1.step hb;clear hb;have x0:=X0.cell 0 _ rfl;have x1:=X0.cell 1 _ rfl;have x2:=X0.cell 2 _ rfl;have x3:=X0.cell 3 _ rfl;have c0:=X1.cell 0 _ rfl;have c1:=X1.cell 1 _ rfl;have c2:=X1.cell 2 _ rfl;have c3:=X1.cell 3 _ rfl;have f0:=X1.frozen 0;have f1:=X1.frozen 1;have f2:=X1.frozen 2;have f3:=X1.frozen 3;have HB:=Aoy X1.old;clear X0 X1
 cases hv:Bl a b c d with
 | false =>
   have HD:Hid (Fx ⟨a,b,c,d⟩=.tuple #[.agg #[.int .i64 0,.int .i64 0,.int .i64 0,.int .i64 0],.bool false]):=by show Fx _=_;unfold Fx Bx.ok;rw[hv];rfl
   go_wp2
   exact Ap4 (v:=.tuple #[.agg #[.int .i64 0,.int .i64 0,.int .i64 0,.int .i64 0],.bool false]) (by simp[results,Tryz.f93,go_sem,c0,c1,c2,c3]) rfl ⟨by rw[HD.out],HF.out _ HB.out _ _ _ _⟩
 | true =>
   have HD:Hid (Fx ⟨a,b,c,d⟩=.tuple #[.agg #[.int .i64 a,.int .i64 b,.int .i64 c,.int .i64 d],.bool true]):=by show Fx _=_;unfold Fx Bx.ok;rw[hv];rfl
   go_wp2
   exact Ap4 (v:=.tuple #[.agg #[.int .i64 a,.int .i64 b,.int .i64 c,.int .i64 d],.bool true]) (by simp[results,Tryz.f93,go_sem,c0,c1,c2,c3]) rfl ⟨by rw[HD.out],HF.out _ HB.out _ _ _ _⟩
theorem A4g (a b c d:Int)(hv:Bl a b c d=true)(w:World):Calls Vp.prog 97 #[.agg #[.int .i64 a,.int .i64 b,.int .i64 c,.int .i64 d]] w fun e w'=>e=.returned (.tuple #[.int .i64 (Zu ⟨a,b,c,d⟩),.int .i64 (nHi ⟨a,b,c,d⟩),.bool true])/\Below w.heap.size w w':=by
 obtain⟨b1,b2,b3,b4,b5,b6⟩:=Bx.bd (x:=⟨a,b,c,d⟩) hv;dsimp only at b1 b2 b3 b4 b5 b6;have l1:=Fb (l:=a) (h:=b) (k:=134217728) (by omega) (by omega)
 have l2:=Fb (l:=c) (h:=d) (k:=134217728) (by omega) (by omega)
 have l3:=Dm (l:=a) (h:=b) (k:=134217728) (by omega) (by omega) (by omega) (by omega)
 have l4:=Dm (l:=c) (h:=d) (k:=134217728) (by omega) (by omega) (by omega) (by omega)
 have HQ:=Aoy (Dy a b (by omega) (by omega) (by omega) (by omega))
 have HR:=Aoy (Dy c d (by omega) (by omega) (by omega) (by omega))
 have HL:Hid (Zu ⟨a,b,c,d⟩=Aw a b+Aw c d/\nHi ⟨a,b,c,d⟩=Ba a b+Ba c d):=⟨rfl,rfl⟩;have hw1:wrap64 (Aw a b+Aw c d)=Zu ⟨a,b,c,d⟩:=Fv (by omega) (by omega)
 have hw2:wrap64 (Ba a b+Ba c d)=nHi ⟨a,b,c,d⟩:=Fv (by omega) (by omega)
 clear l1 l2 l3 l4 b1 b2 b3 b4 b5 b6 HL;generalize Zu ⟨a,b,c,d⟩=N1 at *;generalize nHi ⟨a,b,c,d⟩=N2 at *;generalize Aw a b=s1 at *;generalize Aw c d=s3 at *;generalize Ba a b=s2 at *;generalize Ba c d=s4 at *;have X:=A9.new w #[.int .i64 a,.int .i64 b,.int .i64 c,.int .i64 d] 93
 go_enter Vp.func97,Tryz.ntmps97
 go_wp2_with fail
 refine(Cf a b c d _).mono ?_
 rintro e w1 ⟨rfl,hb⟩;replace X:=X.step hb;clear hb;have x0:=X.cell 0 _ rfl;have x1:=X.cell 1 _ rfl;have x2:=X.cell 2 _ rfl;have x3:=X.cell 3 _ rfl;have HB:=Aoy X.old;clear X;rw[hv]
 go_wp2_with fail
 refine(HQ.out _).mono ?_
 rintro e w2 ⟨rfl,rfl⟩
 go_wp2_with fail
 refine(HR.out _).mono ?_
 rintro e w2 ⟨rfl,rfl⟩
 go_wp2
 exact Ap4 (v:=.tuple #[.int .i64 N1,.int .i64 N2,.bool true]) (by simp[results,Tryz.f97,go_sem,hw1,hw2]) rfl ⟨rfl,HB.out⟩
theorem A8i (a b c d a' b' c' d':Int)(hv:Bl a b c d=true)(hv2:Bl a' b' c' d'=true)(w:World):Calls Vp.prog 99 #[.agg #[.int .i64 a,.int .i64 b,.int .i64 c,.int .i64 d],.agg #[.int .i64 a',.int .i64 b',.int .i64 c',.int .i64 d']] w fun e w'=>e=.returned (Fx ⟨a+a',b+b',c+c',d+d'⟩)/\Below w.heap.size w w':=by
 obtain⟨b1,b2,b3,b4,b5,b6⟩:=Bx.bd (x:=⟨a,b,c,d⟩) hv;obtain⟨g1,g2,g3,g4,g5,g6⟩:=Bx.bd (x:=⟨a',b',c',d'⟩) hv2;dsimp only at b1 b2 b3 b4 b5 b6 g1 g2 g3 g4 g5 g6;obtain⟨S1,hw1,e1⟩:∃s,wrap64 (a+a')=s/\a+a'=s:=⟨_,Fv (by omega) (by omega),rfl⟩
 obtain⟨S2,hw2,e2⟩:∃s,wrap64 (b+b')=s/\b+b'=s:=⟨_,Fv (by omega) (by omega),rfl⟩
 obtain⟨S3,hw3,e3⟩:∃s,wrap64 (c+c')=s/\c+c'=s:=⟨_,Fv (by omega) (by omega),rfl⟩
 obtain⟨S4,hw4,e4⟩:∃s,wrap64 (d+d')=s/\d+d'=s:=⟨_,Fv (by omega) (by omega),rfl⟩
 rw[e1,e2,e3,e4];have HD:=Aoy (Xh S1 S2 S3 S4);obtain⟨x,y,z,u,t,hx⟩:=K6 ⟨S1,S2,S3,S4⟩;rw[hx]at HD;rw[hx];clear b1 b2 b3 b4 b5 b6 g1 g2 g3 g4 g5 g6 e1 e2 e3 e4 hx;have X0:=((A9.new w #[.int .i64 a,.int .i64 b,.int .i64 c,.int .i64 d] 93).alloc (.cells #[.int .i64 a',.int .i64 b',.int .i64 c',.int .i64 d'] 93)).alloc (.cells #[.int .i64 0,.int .i64 0,.int .i64 0,.int .i64 0] 93)
 have Y0:A9 w (w.heap.size+1) #[.int .i64 a',.int .i64 b',.int .i64 c',.int .i64 d'] 93 (((w.alloc (.cells #[.int .i64 a,.int .i64 b,.int .i64 c,.int .i64 d] 93)).alloc (.cells #[.int .i64 a',.int .i64 b',.int .i64 c',.int .i64 d'] 93)).alloc (.cells #[.int .i64 0,.int .i64 0,.int .i64 0,.int .i64 0] 93)):=by
  have:=((A9.new (w.alloc (.cells #[.int .i64 a,.int .i64 b,.int .i64 c,.int .i64 d] 93)) #[.int .i64 a',.int .i64 b',.int .i64 c',.int .i64 d'] 93).alloc (.cells #[.int .i64 0,.int .i64 0,.int .i64 0,.int .i64 0] 93)).up (w0:=w) ((Aph _ _).alloc (Ap0 _) _)
  rwa [Apl]at this
 have Z0:A9 w (w.heap.size+1+1) #[.int .i64 0,.int .i64 0,.int .i64 0,.int .i64 0] 93 (((w.alloc (.cells #[.int .i64 a,.int .i64 b,.int .i64 c,.int .i64 d] 93)).alloc (.cells #[.int .i64 a',.int .i64 b',.int .i64 c',.int .i64 d'] 93)).alloc (.cells #[.int .i64 0,.int .i64 0,.int .i64 0,.int .i64 0] 93)):=by
  have:=(A9.new ((w.alloc (.cells #[.int .i64 a,.int .i64 b,.int .i64 c,.int .i64 d] 93)).alloc (.cells #[.int .i64 a',.int .i64 b',.int .i64 c',.int .i64 d'] 93)) #[.int .i64 0,.int .i64 0,.int .i64 0,.int .i64 0] 93).up (w0:=w) (((Aph _ _).alloc (Ap0 _) _).alloc (by simp) _)
  rwa [Apl,Apl]at this
 have HF:Hid (∀W,Below w.heap.size w W->∀u0 u1 u2 u3,Below w.heap.size w ((((W.setCell ⟨w.heap.size+1+1,0,none⟩ u0).setCell ⟨w.heap.size+1+1,1,none⟩ u1).setCell ⟨w.heap.size+1+1,2,none⟩ u2).setCell ⟨w.heap.size+1+1,3,none⟩ u3)):=fun W h u0 u1 u2 u3 =>
  (((h.setCell (p:=⟨w.heap.size+1+1,0,none⟩) (by simp;omega) _).setCell (p:=⟨w.heap.size+1+1,1,none⟩) (by simp;omega) _).setCell (p:=⟨w.heap.size+1+1,2,none⟩) (by simp;omega) _).setCell (p:=⟨w.heap.size+1+1,3,none⟩) (by simp;omega) _
 go_enter Vp.func99,Tryz.ntmps99
 go_wp2_with fail
 refine(Cf a b c d _).mono ?_
 rintro e w1 ⟨rfl,hb⟩;replace X0:=X0.step hb;replace Y0:=Y0.step hb;replace Z0:=Z0.step hb;clear hb;have y0:=Y0.cell 0 _ rfl;have y1:=Y0.cell 1 _ rfl;have y2:=Y0.cell 2 _ rfl;have y3:=Y0.cell 3 _ rfl;rw[hv]
 go_wp2_with fail
 refine(Cf a' b' c' d' _).mono ?_
 rintro e w2 ⟨rfl,hb⟩;replace X0:=X0.step hb;replace Y0:=Y0.step hb;replace Z0:=Z0.step hb;clear hb y0 y1 y2 y3;have x0:=X0.cell 0 _ rfl;have x1:=X0.cell 1 _ rfl;have x2:=X0.cell 2 _ rfl;have x3:=X0.cell 3 _ rfl;have y0:=Y0.cell 0 _ rfl;have y1:=Y0.cell 1 _ rfl;have y2:=Y0.cell 2 _ rfl;have y3:=Y0.cell 3 _ rfl;rw[hv2];clear X0 Y0
 go_wp2_with fail
 refine(HD.out _).mono ?_
 rintro e w3 ⟨rfl,hb⟩;replace Z0:=Z0.step hb;clear hb x0 x1 x2 x3 y0 y1 y2 y3;have c0:=Z0.cell 0 _ rfl;have c1:=Z0.cell 1 _ rfl;have c2:=Z0.cell 2 _ rfl;have c3:=Z0.cell 3 _ rfl;have f0:=Z0.frozen 0;have f1:=Z0.frozen 1;have f2:=Z0.frozen 2;have f3:=Z0.frozen 3;have HB:=Aoy Z0.old;clear Z0
 go_wp2
 exact Ap4 (v:=.tuple #[.agg #[.int .i64 x,.int .i64 y,.int .i64 z,.int .i64 u],.bool t]) (by simp[results,Tryz.f99,go_sem,c0,c1,c2,c3]) rfl ⟨rfl,HF.out _ HB.out _ _ _ _⟩
end
section
open Go.RowKit
theorem Z1 (a b c d:Int)(hv:Bl a b c d=true)(w:World):Calls Vp.prog 98 #[.agg #[.int .i64 a,.int .i64 b,.int .i64 c,.int .i64 d]] w fun e w'=>e=.returned (Fx (Bx.sq ⟨a,b,c,d⟩))/\Below w.heap.size w w':=by
 have X0:A9 w w.heap.size #[.int .i64 a,.int .i64 b,.int .i64 c,.int .i64 d] 93 ((w.alloc (.cells #[.int .i64 a,.int .i64 b,.int .i64 c,.int .i64 d] 93)).alloc (.cells #[.int .i64 0,.int .i64 0,.int .i64 0,.int .i64 0] 93)):=(A9.new w _ _).alloc _
 have X1:A9 w (w.heap.size+1) #[.int .i64 0,.int .i64 0,.int .i64 0,.int .i64 0] 93 ((w.alloc (.cells #[.int .i64 a,.int .i64 b,.int .i64 c,.int .i64 d] 93)).alloc (.cells #[.int .i64 0,.int .i64 0,.int .i64 0,.int .i64 0] 93)):=by
  have:=(A9.new (w.alloc (.cells #[.int .i64 a,.int .i64 b,.int .i64 c,.int .i64 d] 93)) #[.int .i64 0,.int .i64 0,.int .i64 0,.int .i64 0] 93).up (w0:=w) ((Aph _ _).alloc (Ap0 _) _)
  rwa [Apl]at this
 have HF:Hid (∀W,Below w.heap.size w W->∀u0 u1 u2 u3,Below w.heap.size w ((((W.setCell ⟨w.heap.size+1,0,none⟩ u0).setCell ⟨w.heap.size+1,1,none⟩ u1).setCell ⟨w.heap.size+1,2,none⟩ u2).setCell ⟨w.heap.size+1,3,none⟩ u3)):=fun W h u0 u1 u2 u3 =>
  (((h.setCell (p:=⟨w.heap.size+1,0,none⟩) (by simp) _).setCell (p:=⟨w.heap.size+1,1,none⟩) (by simp) _).setCell (p:=⟨w.heap.size+1,2,none⟩) (by simp) _).setCell (p:=⟨w.heap.size+1,3,none⟩) (by simp) _
 obtain⟨b1,b2,b3,b4,b5,b6⟩:=Bx.bd (x:=⟨a,b,c,d⟩) hv;dsimp only at b1 b2 b3 b4 b5 b6;have l1:=Fb (l:=a) (h:=b) (k:=134217728) (by omega) (by omega)
 have l2:=Fb (l:=c) (h:=d) (k:=134217728) (by omega) (by omega)
 have l3:=Dm (l:=a) (h:=b) (k:=134217728) (by omega) (by omega) (by omega) (by omega)
 have l4:=Dm (l:=c) (h:=d) (k:=134217728) (by omega) (by omega) (by omega) (by omega)
 have u1:=Hf (x:=a) (y:=c) (k:=134217728) (by omega) (by omega) (by omega) (by omega)
 have u2:=Hf (x:=a) (y:=d) (k:=134217728) (by omega) (by omega) (by omega) (by omega)
 have u3:=Hf (x:=b) (y:=c) (k:=134217728) (by omega) (by omega) (by omega) (by omega)
 have u4:=Hf (x:=b) (y:=d) (k:=134217728) (by omega) (by omega) (by omega) (by omega)
 have HQ:=Aoy (Dy a b (by omega) (by omega) (by omega) (by omega))
 have HR:=Aoy (Dy c d (by omega) (by omega) (by omega) (by omega))
 obtain⟨p,hp,ep⟩:∃p,wrap64 (a*c)=p/\a*c=p:=⟨_,Fv (by omega) (by omega),rfl⟩
 obtain⟨q,hq,eq⟩:∃p,wrap64 (a*d)=p/\a*d=p:=⟨_,Fv (by omega) (by omega),rfl⟩
 obtain⟨r,hr,er⟩:∃p,wrap64 (b*c)=p/\b*c=p:=⟨_,Fv (by omega) (by omega),rfl⟩
 obtain⟨t,ht,et⟩:∃p,wrap64 (b*d)=p/\b*d=p:=⟨_,Fv (by omega) (by omega),rfl⟩
 rw[ep]at u1;rw[eq]at u2;rw[er]at u3;rw[et]at u4;obtain⟨m1,h1,v1⟩:∃m,(if q<p then q else p)=m/\m=min p q:=⟨_,rfl,by split<;>omega⟩
 obtain⟨m2,h2,v2⟩:∃m,(if t<r then t else r)=m/\m=min r t:=⟨_,rfl,by split<;>omega⟩
 obtain⟨m3,h3,v3⟩:∃m,(if m2<m1 then m2 else m1)=m/\m=min m1 m2:=⟨_,rfl,by split<;>omega⟩
 obtain⟨n1,g1,z1⟩:∃m,(if p<q then q else p)=m/\m=max p q:=⟨_,rfl,by split<;>omega⟩
 obtain⟨n2,g2,z2⟩:∃m,(if r<t then t else r)=m/\m=max r t:=⟨_,rfl,by split<;>omega⟩
 obtain⟨n3,g3,z3⟩:∃m,(if n1<n2 then n2 else n1)=m/\m=max n1 n2:=⟨_,rfl,by split<;>omega⟩
 have vm:Qs ⟨a,b,c,d⟩=m3:=by unfold Qs;dsimp only;rw[ep,eq,er,et,v3,v1,v2]
 have vn:Qr ⟨a,b,c,d⟩=n3:=by unfold Qr;dsimp only;rw[ep,eq,er,et,z3,z1,z2]
 have bm:-18014398509481984<=m3/\m3<=18014398509481984:=by omega
 have bn:-18014398509481984<=n3/\n3<=18014398509481984:=by omega
 have hsq:Bx.sq ⟨a,b,c,d⟩=⟨(Aw a b-Ba c d) / 16777216,Kz (Ba a b-Aw c d) 16777216,2*m3 / 16777216,Kz (2*n3) 16777216⟩:=by unfold Bx.sq;rw[vm,vn]
 rw[hsq];generalize Aw a b=s1 at *;generalize Aw c d=s3 at *;generalize Ba a b=s2 at *;generalize Ba c d=s4 at *;obtain⟨D1,w1,e1⟩:∃x,wrap64 (s1-s4)=x/\s1-s4=x:=⟨_,Fv (by omega) (by omega),rfl⟩
 obtain⟨D2,w2,e2⟩:∃x,wrap64 (s2-s3)=x/\s2-s3=x:=⟨_,Fv (by omega) (by omega),rfl⟩
 obtain⟨D3,w3,e3⟩:∃x,wrap64 (2*m3)=x/\2*m3=x:=⟨_,Fv (by omega) (by omega),rfl⟩
 obtain⟨D4,w4,e4⟩:∃x,wrap64 (2*n3)=x/\2*n3=x:=⟨_,Fv (by omega) (by omega),rfl⟩
 rw[e1,e2,e3,e4];have HF1:=Aoy (Ii D1 16777216 (by decide) (by omega) (by omega))
 have HF2:=Aoy (Mh D2 16777216 (by decide) (by omega) (by omega))
 have HF3:=Aoy (Ii D3 16777216 (by decide) (by omega) (by omega))
 have HF4:=Aoy (Mh D4 16777216 (by decide) (by omega) (by omega))
 have HD:=Aoy (Xh (D1 / 16777216) (Kz D2 16777216) (D3 / 16777216) (Kz D4 16777216));obtain⟨o1,o2,o3,o4,o5,hx⟩:=K6 ⟨D1 / 16777216,Kz D2 16777216,D3 / 16777216,Kz D4 16777216⟩;rw[hx]at HD;rw[hx];clear b1 b2 b3 b4 b5 b6 l1 l2 l3 l4 u1 u2 u3 u4 ep eq er et v1 v2 v3 z1 z2 z3 vm vn bm bn hsq e1 e2 e3 e4 hx;generalize D1 / 16777216=F1 at *;generalize Kz D2 16777216=F2 at *;generalize D3 / 16777216=F3 at *;generalize Kz D4 16777216=F4 at *
 go_enter Vp.func98,Tryz.ntmps98
 go_wp2_with fail
 refine(Cf a b c d _).mono ?_
 rintro e w1 ⟨rfl,hb⟩;replace X0:=X0.step hb;replace X1:=X1.step hb;clear hb;have x0:=X0.cell 0 _ rfl;have x1:=X0.cell 1 _ rfl;have x2:=X0.cell 2 _ rfl;have x3:=X0.cell 3 _ rfl;rw[hv];clear X0
 go_wp2_with fail
 refine(HQ.out _).mono ?_
 rintro e w2 ⟨rfl,rfl⟩
 go_wp2_with fail
 refine(HR.out _).mono ?_
 rintro e w2 ⟨rfl,rfl⟩
 go_wp2_with fail
 refine(HF1.out _).mono ?_
 rintro e w2 ⟨rfl,rfl⟩
 go_wp2_with fail
 refine(HF2.out _).mono ?_
 rintro e w2 ⟨rfl,rfl⟩
 go_wp2_with fail
 refine(HF3.out _).mono ?_
 rintro e w2 ⟨rfl,rfl⟩
 go_wp2_with fail
 refine(HF4.out _).mono ?_
 rintro e w2 ⟨rfl,rfl⟩
 go_wp2_with fail
 refine(HD.out _).mono ?_
 rintro e w3 ⟨rfl,hb⟩;replace X1:=X1.step hb;clear hb x0 x1 x2 x3;have c0:=X1.cell 0 _ rfl;have c1:=X1.cell 1 _ rfl;have c2:=X1.cell 2 _ rfl;have c3:=X1.cell 3 _ rfl;have f0:=X1.frozen 0;have f1:=X1.frozen 1;have f2:=X1.frozen 2;have f3:=X1.frozen 3;have HB:=Aoy X1.old;clear X1
 go_wp2
 exact Ap4 (v:=.tuple #[.agg #[.int .i64 o1,.int .i64 o2,.int .i64 o3,.int .i64 o4],.bool o5]) (by simp[results,Tryz.f98,go_sem,c0,c1,c2,c3]) rfl ⟨rfl,HF.out _ HB.out _ _ _ _⟩
end
section
open Go.RowKit
theorem Mb {x:Bx}(h:x.ok=true):-32768<=x.coarse.a/\x.coarse.a<=32768 /\(-32768<=x.coarse.b/\x.coarse.b<=32768)/\-32768<=x.coarse.c/\x.coarse.c<=32768/\-32768<=x.coarse.d/\x.coarse.d<=32768:=by
 obtain⟨b1,b2,b3,b4,b5,b6⟩:=Bx.bd h;unfold Bx.coarse Kz;dsimp only
 omega
theorem Qp (a b c d:Int)(hv:Bl a b c d=true)(w:World):Calls Vp.prog 94 #[.agg #[.int .i64 a,.int .i64 b,.int .i64 c,.int .i64 d]] w fun e w'=>e=.returned (Bx.coarse ⟨a,b,c,d⟩).val/\Below w.heap.size w w':=by
 have X0:A9 w w.heap.size #[.int .i64 a,.int .i64 b,.int .i64 c,.int .i64 d] 93 (((w.alloc (.cells #[.int .i64 a,.int .i64 b,.int .i64 c,.int .i64 d] 93)).alloc (.cells #[.int .i64 0,.int .i64 0,.int .i64 0,.int .i64 0] 93))):=(A9.new w _ _).alloc _
 have X1:A9 w (w.heap.size+1) #[.int .i64 0,.int .i64 0,.int .i64 0,.int .i64 0] 93 (((w.alloc (.cells #[.int .i64 a,.int .i64 b,.int .i64 c,.int .i64 d] 93)).alloc (.cells #[.int .i64 0,.int .i64 0,.int .i64 0,.int .i64 0] 93))):=by
  have:=(A9.new (w.alloc (.cells #[.int .i64 a,.int .i64 b,.int .i64 c,.int .i64 d] 93)) #[.int .i64 0,.int .i64 0,.int .i64 0,.int .i64 0] 93).up (w0:=w) ((Aph _ _).alloc (Ap0 _) _)
  rwa [Apl]at this
 have HF:Hid (∀W,Below w.heap.size w W->∀u0 u1 u2 u3,Below w.heap.size w ((((W.setCell ⟨w.heap.size+1,0,none⟩ u0).setCell ⟨w.heap.size+1,1,none⟩ u1).setCell ⟨w.heap.size+1,2,none⟩ u2).setCell ⟨w.heap.size+1,3,none⟩ u3)):=fun W h u0 u1 u2 u3 =>
  (((h.setCell (p:=⟨w.heap.size+1,0,none⟩) (by simp) _).setCell (p:=⟨w.heap.size+1,1,none⟩) (by simp) _).setCell (p:=⟨w.heap.size+1,2,none⟩) (by simp) _).setCell (p:=⟨w.heap.size+1,3,none⟩) (by simp) _
 obtain⟨b1,b2,b3,b4,b5,b6⟩:=Bx.bd (x:=⟨a,b,c,d⟩) hv;dsimp only at b1 b2 b3 b4 b5 b6;have HF1:=Aoy (Ii a 4096 (by decide) (by omega) (by omega))
 have HF2:=Aoy (Mh b 4096 (by decide) (by omega) (by omega))
 have HF3:=Aoy (Ii c 4096 (by decide) (by omega) (by omega))
 have HF4:=Aoy (Mh d 4096 (by decide) (by omega) (by omega))
 show Calls Vp.prog 94 #[.agg #[.int .i64 a,.int .i64 b,.int .i64 c,.int .i64 d]] w fun e w'=>e=.returned (.agg #[.int .i64 (a / 4096),.int .i64 (Kz b 4096),.int .i64 (c / 4096),.int .i64 (Kz d 4096)])/\Below w.heap.size w w'
 clear b1 b2 b3 b4 b5 b6 hv;generalize a / 4096=q1 at *;generalize Kz b 4096=q2 at *;generalize c / 4096=q3 at *;generalize Kz d 4096=q4 at *
 go_enter Vp.func94,Tryz.ntmps94
 go_upto_region 1 with fail
 have x0:=X0.cell 0 _ rfl;have x1:=X0.cell 1 _ rfl;have x2:=X0.cell 2 _ rfl;have x3:=X0.cell 3 _ rfl;have c0:=X1.cell 0 _ rfl;have c1:=X1.cell 1 _ rfl;have c2:=X1.cell 2 _ rfl;have c3:=X1.cell 3 _ rfl;have f0:=X1.frozen 0;have f1:=X1.frozen 1;have f2:=X1.frozen 2;have f3:=X1.frozen 3;have HB:=Aoy X1.old;have HB2:=Aoy (X1.step ((Au.refl _).drew.below _)).old;clear X0 X1;generalize ((w.alloc (.cells #[.int .i64 a,.int .i64 b,.int .i64 c,.int .i64 d] 93)).alloc (.cells #[.int .i64 0,.int .i64 0,.int .i64 0,.int .i64 0] 93))=W at *
 go_region_held3 (fun w'=>w'.cell? ⟨w.heap.size,0,none⟩=some (.int .i64 a)/\w'.cell? ⟨w.heap.size,1,none⟩=some (.int .i64 b)/\w'.cell? ⟨w.heap.size,2,none⟩=some (.int .i64 c)/\w'.cell? ⟨w.heap.size,3,none⟩=some (.int .i64 d)) (go_keep) (first
  |(go_at_call 121;(first |(with_reducible refine(HF1.out _).mono ?_) |(with_reducible refine(HF3.out _).mono ?_));rintro e w' ⟨rfl,rfl⟩)
  |(go_at_call 122;(first |(with_reducible refine(HF2.out _).mono ?_) |(with_reducible refine(HF4.out _).mono ?_));rintro e w' ⟨rfl,rfl⟩))
 all_goals
  go_wp2
  first
   | exact Ap4 (v:=.agg #[.int .i64 q1,.int .i64 q2,.int .i64 q3,.int .i64 q4]) (by simp[results,Tryz.f94,go_sem,c0,c1,c2,c3]) rfl ⟨rfl,HF.out _ HB2.out _ _ _ _⟩
   | exact Ap4 (v:=.agg #[.int .i64 q1,.int .i64 q2,.int .i64 q3,.int .i64 q4]) (by simp[results,Tryz.f94,go_sem,c0,c1,c2,c3]) rfl ⟨rfl,(HF.out _ HB.out _ _ _ _).trans ((Au.refl _).drew.below _)⟩
   | trace_state
theorem Zc (a b c d:Int)(hv:Bl a b c d=true)(w:World):Calls Vp.prog 70 #[.agg #[.int .i64 a,.int .i64 b,.int .i64 c,.int .i64 d]] w fun e w'=>e=.returned (.tuple #[.int .i64 (Gy ⟨a,b,c,d⟩),.bool true])/\Below w.heap.size w w':=by
 obtain⟨b1,b2,b3,b4⟩:=Mb (x:=⟨a,b,c,d⟩) hv;have hc:=Qp a b c d hv;have HC:Hid (∀w,Calls Vp.prog 94 #[.agg #[.int .i64 a,.int .i64 b,.int .i64 c,.int .i64 d]] w fun e w'=>e=.returned (.agg #[.int .i64 (Bx.coarse ⟨a,b,c,d⟩).a,.int .i64 (Bx.coarse ⟨a,b,c,d⟩).b,.int .i64 (Bx.coarse ⟨a,b,c,d⟩).c,.int .i64 (Bx.coarse ⟨a,b,c,d⟩).d])/\Below w.heap.size w w'):=hc
 clear hc;have HX:Hid (Gy ⟨a,b,c,d⟩=Ba ((Bx.coarse ⟨a,b,c,d⟩).a+4096) ((Bx.coarse ⟨a,b,c,d⟩).b+4096)+Ba (Bx.coarse ⟨a,b,c,d⟩).c (Bx.coarse ⟨a,b,c,d⟩).d-1048576):=rfl;generalize Gy ⟨a,b,c,d⟩=R at *;generalize (Bx.coarse ⟨a,b,c,d⟩).a=p at *;generalize (Bx.coarse ⟨a,b,c,d⟩).b=q at *;generalize (Bx.coarse ⟨a,b,c,d⟩).c=r at *;generalize (Bx.coarse ⟨a,b,c,d⟩).d=s at *;have l3:=Dm (l:=p+4096) (h:=q+4096) (k:=40000) (by omega) (by omega) (by omega) (by omega)
 have l4:=Dm (l:=r) (h:=s) (k:=40000) (by omega) (by omega) (by omega) (by omega)
 obtain⟨P,k1,e1⟩:∃x,wrap64 (p+4096)=x/\p+4096=x:=⟨_,Fv (by omega) (by omega),rfl⟩
 obtain⟨Q,k2,e2⟩:∃x,wrap64 (q+4096)=x/\q+4096=x:=⟨_,Fv (by omega) (by omega),rfl⟩
 have HQ:=Aoy (Dy P Q (by omega) (by omega) (by omega) (by omega))
 have HR:=Aoy (Dy r s (by omega) (by omega) (by omega) (by omega))
 have h:=HX.out;rw[e1,e2]at h l3;generalize Ba P Q=s2 at *;generalize Ba r s=s4 at *;generalize Aw P Q=s1 at *;generalize Aw r s=s3 at *;obtain⟨S,k3,e3⟩:∃x,wrap64 (s2+s4)=x/\s2+s4=x:=⟨_,Fv (by omega) (by omega),rfl⟩
 rw[e3]at h;have k4:wrap64 (S-1048576)=R:=by rw[h];exact Fv (by omega) (by omega)
 clear HX h l3 l4 e1 e2 e3 b1 b2 b3 b4;have X:=A9.new w #[.int .i64 a,.int .i64 b,.int .i64 c,.int .i64 d] 93
 go_enter Vp.func70,Tryz.ntmps70
 go_wp2_with fail
 refine(Cf a b c d _).mono ?_
 rintro e w1 ⟨rfl,hb⟩;replace X:=X.step hb;clear hb;have x0:=X.cell 0 _ rfl;have x1:=X.cell 1 _ rfl;have x2:=X.cell 2 _ rfl;have x3:=X.cell 3 _ rfl;rw[hv]
 go_wp2_with fail
 refine(HC.out _).mono ?_
 rintro e w2 ⟨rfl,hb⟩;replace X:=X.step hb;clear hb x0 x1 x2 x3;have Y:=(A9.new w2 #[.int .i64 p,.int .i64 q,.int .i64 r,.int .i64 s] 93).up X.old;have y0:=Y.cell 0 _ rfl;have y1:=Y.cell 1 _ rfl;have y2:=Y.cell 2 _ rfl;have y3:=Y.cell 3 _ rfl;have HB:=Aoy Y.old;clear X Y
 go_wp2_with fail
 refine(HQ.out _).mono ?_
 rintro e w3 ⟨rfl,rfl⟩
 go_wp2_with fail
 refine(HR.out _).mono ?_
 rintro e w3 ⟨rfl,rfl⟩
 go_wp2
 all_goals
  exact Ap4 (v:=.tuple #[.int .i64 R,.bool true]) (by simp[results,Tryz.f70,go_sem,k1,k2,k3,k4]) rfl ⟨rfl,HB.out⟩
theorem Pp (a b c d:Int)(hv:Bl a b c d=true)(w:World):Calls Vp.prog 69 #[.agg #[.int .i64 a,.int .i64 b,.int .i64 c,.int .i64 d]] w fun e w'=>e=.returned (.tuple #[.int .i64 (Gx ⟨a,b,c,d⟩),.bool true])/\Below w.heap.size w w':=by
 obtain⟨b1,b2,b3,b4⟩:=Mb (x:=⟨a,b,c,d⟩) hv;have hc:=Qp a b c d hv;have HC:Hid (∀w,Calls Vp.prog 94 #[.agg #[.int .i64 a,.int .i64 b,.int .i64 c,.int .i64 d]] w fun e w'=>e=.returned (.agg #[.int .i64 (Bx.coarse ⟨a,b,c,d⟩).a,.int .i64 (Bx.coarse ⟨a,b,c,d⟩).b,.int .i64 (Bx.coarse ⟨a,b,c,d⟩).c,.int .i64 (Bx.coarse ⟨a,b,c,d⟩).d])/\Below w.heap.size w w'):=hc
 clear hc;have HX:Hid (Gx ⟨a,b,c,d⟩=(if Kp ⟨a,b,c,d⟩<0 then Aw ((Bx.coarse ⟨a,b,c,d⟩).a-1024) ((Bx.coarse ⟨a,b,c,d⟩).b-1024)+Aw (Bx.coarse ⟨a,b,c,d⟩).c (Bx.coarse ⟨a,b,c,d⟩).d else Ba ((Bx.coarse ⟨a,b,c,d⟩).a-1024) ((Bx.coarse ⟨a,b,c,d⟩).b-1024)+Ba (Bx.coarse ⟨a,b,c,d⟩).c (Bx.coarse ⟨a,b,c,d⟩).d)*Kp ⟨a,b,c,d⟩-Aw (Bx.coarse ⟨a,b,c,d⟩).c (Bx.coarse ⟨a,b,c,d⟩).d*4194304):=rfl
 have HG:Hid (Kp ⟨a,b,c,d⟩=Ba ((Bx.coarse ⟨a,b,c,d⟩).a-1024) ((Bx.coarse ⟨a,b,c,d⟩).b-1024)+Ba (Bx.coarse ⟨a,b,c,d⟩).c (Bx.coarse ⟨a,b,c,d⟩).d +((Bx.coarse ⟨a,b,c,d⟩).b-1024)*4096):=rfl;generalize Gx ⟨a,b,c,d⟩=R at *;generalize Kp ⟨a,b,c,d⟩=G at *;generalize (Bx.coarse ⟨a,b,c,d⟩).a=p at *;generalize (Bx.coarse ⟨a,b,c,d⟩).b=q at *;generalize (Bx.coarse ⟨a,b,c,d⟩).c=r at *;generalize (Bx.coarse ⟨a,b,c,d⟩).d=s at *;have l1:=Fb (l:=p-1024) (h:=q-1024) (k:=33792) (by omega) (by omega)
 have l2:=Fb (l:=r) (h:=s) (k:=33792) (by omega) (by omega)
 have l3:=Dm (l:=p-1024) (h:=q-1024) (k:=33792) (by omega) (by omega) (by omega) (by omega)
 have l4:=Dm (l:=r) (h:=s) (k:=33792) (by omega) (by omega) (by omega) (by omega)
 obtain⟨P,k1,e1⟩:∃x,wrap64 (p-1024)=x/\p-1024=x:=⟨_,Fv (by omega) (by omega),rfl⟩
 obtain⟨Q,k2,e2⟩:∃x,wrap64 (q-1024)=x/\q-1024=x:=⟨_,Fv (by omega) (by omega),rfl⟩
 have HQ:=Aoy (Dy P Q (by omega) (by omega) (by omega) (by omega))
 have HR:=Aoy (Dy r s (by omega) (by omega) (by omega) (by omega))
 have h:=HX.out;have g:=HG.out;rw[e1,e2]at h g l3 l1;generalize Ba P Q=s2 at *;generalize Ba r s=s4 at *;generalize Aw P Q=s1 at *;generalize Aw r s=s3 at *;obtain⟨S,k3,e3⟩:∃x,wrap64 (s2+s4)=x/\s2+s4=x:=⟨_,Fv (by omega) (by omega),rfl⟩
 obtain⟨S0,k4,e4⟩:∃x,wrap64 (s1+s3)=x/\s1+s3=x:=⟨_,Fv (by omega) (by omega),rfl⟩
 obtain⟨K,k5,e5⟩:∃x,wrap64 (Q*4096)=x/\Q*4096=x:=⟨_,Fv (by omega) (by omega),rfl⟩
 rw[e3,e4]at h;rw[e3,e5]at g;have k6:wrap64 (S+K)=G:=by rw[g];exact Fv (by omega) (by omega)
 have k7:wrap64 (s3*4194304)=s3*4194304:=Fv (by omega) (by omega)
 have bS:0<=S/\S<=2283798528:=by omega
 have bS0:0<=S0/\S0<=2283798528:=by omega
 have bG:-2283798528<=G/\G<=2500000000:=by omega
 have ym:∀x:Int,0<=x->x<=2283798528->-5800000000000000000<=x*G/\x*G<=5800000000000000000:=fun x h0 h1=>by
  rcases Aro 0 G with hg|hg
  ·have:=Aqt h0 hg;have:=Aqy h1 bG.2 hg (by omega)
   omega
  ·have h2:=Aqt h0 (show 0<=-G by omega)
   have h3:=Aqy h1 (show -G<=2283798528 by omega) (by omega) (by omega)
   rw[Int.mul_neg]at h2 h3
   omega
 have y1:=ym S bS.1 bS.2;have y2:=ym S0 bS0.1 bS0.2;obtain⟨T,k8,e8⟩:∃x,wrap64 (s3*4194304)=x/\s3*4194304=x:=⟨_,k7,rfl⟩;rw[e8]at h;obtain⟨M,k9,e9⟩:∃x,wrap64 (S*G)=x/\S*G=x:=⟨_,Fv (by omega) (by omega),rfl⟩
 obtain⟨M0,k10,e10⟩:∃x,wrap64 (S0*G)=x/\S0*G=x:=⟨_,Fv (by omega) (by omega),rfl⟩
 have k11:¬G<0->wrap64 (M-T)=R:=fun hg=>by rw[h,Ap8 hg,e9];exact Fv (by omega) (by omega)
 have k12:G<0->wrap64 (M0-T)=R:=fun hg=>by rw[h,Apb hg,e10];exact Fv (by omega) (by omega)
 have HW11:=Aoy k11;have HW12:=Aoy k12;clear HX HG h g l1 l2 l3 l4 e1 e2 e3 e4 e5 e8 e9 e10 b1 b2 b3 b4 y1 y2 ym bS bS0 bG k7 k11 k12;have X:=A9.new w #[.int .i64 a,.int .i64 b,.int .i64 c,.int .i64 d] 93
 go_enter Vp.func69,Tryz.ntmps69
 go_wp2_with fail
 refine(Cf a b c d _).mono ?_
 rintro e w1 ⟨rfl,hb⟩;replace X:=X.step hb;clear hb;have x0:=X.cell 0 _ rfl;have x1:=X.cell 1 _ rfl;have x2:=X.cell 2 _ rfl;have x3:=X.cell 3 _ rfl;rw[hv]
 go_wp2_with fail
 refine(HC.out _).mono ?_
 rintro e w2 ⟨rfl,hb⟩;replace X:=X.step hb;clear hb x0 x1 x2 x3;have Y:=(A9.new w2 #[.int .i64 p,.int .i64 q,.int .i64 r,.int .i64 s] 93).up X.old;have y0:=Y.cell 0 _ rfl;have y1:=Y.cell 1 _ rfl;have y2:=Y.cell 2 _ rfl;have y3:=Y.cell 3 _ rfl;have HB:=Aoy Y.old;clear X Y
 go_wp2_with fail
 refine(HQ.out _).mono ?_
 rintro e w3 ⟨rfl,rfl⟩
 go_wp2_with fail
 refine(HR.out _).mono ?_
 rintro e w3 ⟨rfl,rfl⟩
 by_cases hg:G<0
 ·have k13:=HW12.out (by omega)
  go_wp2
  exact Ap4 (v:=.tuple #[.int .i64 R,.bool true]) (by simp[results,Tryz.f69,go_sem,k1,k2,k3,k4,k5,k6,k8,k9,k10,k13]) rfl ⟨rfl,HB.out⟩
 ·have k13:=HW11.out (by omega)
  go_wp2
  exact Ap4 (v:=.tuple #[.int .i64 R,.bool true]) (by simp[results,Tryz.f69,go_sem,k1,k2,k3,k4,k5,k6,k8,k9,k10,k13]) rfl ⟨rfl,HB.out⟩
end
end Go.Proofs.YtlfleicchbgcmaaGreat
