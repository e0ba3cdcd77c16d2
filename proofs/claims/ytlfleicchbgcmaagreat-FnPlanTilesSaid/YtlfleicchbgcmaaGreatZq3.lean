import Derived.Test.YtlfleicchbgcmaaGreatZq2
import Derived.Test.YtlfleicchbgcmaaGreatZq0
import Derived.Test.YtlfleicchbgcmaaGreatZqK
set_option linter.all false
set_option maxHeartbeats 16000000
set_option maxRecDepth 100000
namespace Go.Proofs.YtlfleicchbgcmaaGreat
section
open Go.RowKit
theorem Zw (neg:Bool)(t drop:Nat):Ieee.Toward.down.cut neg (t*2^drop) drop=t:=by
 unfold Ieee.Toward.cut;simp only[]
 by_cases hd:drop <=(t*2^drop).log2+2
 ·rw[Akm hd,Am2,Nat.mul_div_cancel _ (Aib _),Nat.mul_mod_left];simp
 ·have h0:t=0:=by
   rcases Ajr t with h|h
   ·exact h
   ·exfalso
    have hlt:t*2^drop<2^((t*2^drop).log2+1):=Aln;have h2:2^((t*2^drop).log2+1)<=2^drop:=Ain (by omega) (by omega)
    have h3:=Ai7 (2^drop) h
    omega
  subst h0;simp
theorem A6n {z:Nat}{A:Int}(hz:Flo.Cu Ieee.double z (A *(2^Flo.u64:Nat))) :
 ∃s m e,FloatKind.f64.decode z=.number s m e/\Flo.Cu Ieee.double (FloatKind.f64.encode ((Ieee.Datum.number s m e).integral .down)) (A *(2^Flo.u64:Nat)):=by
 refine⟨_,_,_,Flo.Ax hz.fin,?_⟩
 have hd:=Flo.Cr hz;rw[Ais,Aih]at hd
 have hm:Ieee.Toward.down.cut (Flo.Ht Ieee.double z) (Flo.rm Ieee.double (Flo.Ae Ieee.double z) <<<(Ieee.double.leastPlace+Flo.re Ieee.double (Flo.Ae Ieee.double z)).toNat) (-(Ieee.double.leastPlace +(Flo.re Ieee.double (Flo.Ae Ieee.double z):Int))).toNat=A.natAbs:=by
  rw[Flo.Ci];generalize Flo.re Ieee.double (Flo.Ae Ieee.double z)=e at *;generalize Flo.rm Ieee.double (Flo.Ae Ieee.double z)=m at *;generalize Flo.Ht Ieee.double z=s at *
  rcases Nat.le_total Flo.u64 e with h|h
  ·obtain⟨r,rfl⟩:∃r,e=r+Flo.u64:=⟨e-Flo.u64,by omega⟩
   have e1:(-(Flo.u64:Int) +((r+Flo.u64:Nat):Int)).toNat=r:=by omega
   have e2:(-(-(Flo.u64:Int) +((r+Flo.u64:Nat):Int))).toNat=0:=by omega
   rw[e1,e2];rw[Ail,<-Aiy]at hd;have hA:=Nat.eq_of_mul_eq_mul_right (Aib Flo.u64) hd;have:=Zw s A.natAbs 0;rw[Alu,Alq]at this;rw[Al7,<-hA];exact this
  ·obtain⟨r,hr⟩:∃r,Flo.u64=r+e:=⟨Flo.u64-e,by omega⟩
   have e1:(-(Flo.u64:Int) +(e:Int)).toNat=0:=by omega
   have e2:(-(-(Flo.u64:Int) +(e:Int))).toNat=r:=by omega
   rw[e1,e2];rw[hr,Ail,<-Aiy]at hd;have hA:=Nat.eq_of_mul_eq_mul_right (Aib e) hd;rw[Nat.shiftLeft_zero,<-hA]
   exact Zw s A.natAbs r
 show Flo.Cu Ieee.double (Ieee.double.nearest (Flo.Ht Ieee.double z) (Ieee.Toward.down.cut (Flo.Ht Ieee.double z) (Flo.rm Ieee.double (Flo.Ae Ieee.double z) <<<(Ieee.double.leastPlace+Flo.re Ieee.double (Flo.Ae Ieee.double z)).toNat) (-(Ieee.double.leastPlace +(Flo.re Ieee.double (Flo.Ae Ieee.double z):Int))).toNat) 0) _
 rw[hm];have hiv:=hz.iv;unfold Flo.iv at hiv
 refine Flo.Fa (a:=Flo.u64) (b:=0) hz.rep (by rw[Flo.Ci];omega) (by rw[Ais,Aih,Alu,Alq]) (fun hneg=>?_) (fun hpos=>?_)
 ·cases hs:Flo.Ht Ieee.double z
  ·rw[hs]at hiv;simp only[Aj8,Alx]at hiv
   omega
  ·rfl
 ·cases hs:Flo.Ht Ieee.double z
  ·rfl
  ·rw[hs]at hiv;simp only[Amg]at hiv
   omega
theorem L0 (z:Nat)(s:Bool)(m:Nat)(e:Int)(hd:FloatKind.f64.decode z=.number s m e):Go.Extern.MathFloor.toIntegral "math.archFloor" .down #[.float .f64 z]=pure (.float .f64 (FloatKind.f64.encode ((Ieee.Datum.number s m e).integral .down))):=by
 show(match FloatKind.f64.decode z with|.nan s t=>_|d=>pure (Value.float .f64 (FloatKind.f64.encode (d.integral .down))))=_
 rw[hd]
theorem M9 (z:Nat)(w:World):(callFunc 101 #[.float .f64 z]).run Vp.prog w=(do let v <-Go.Extern.MathFloor.toIntegral "math.archFloor" .down #[.float .f64 z];pure (Next.value v)).run Vp.prog w:=by
 kernel_rfl
theorem Nl (z:Nat)(A:Int)(hz:Flo.Cu Ieee.double z (A *(2^Flo.u64:Nat)))(w:World):Calls Vp.prog 76 #[.float .f64 z] w fun e w'=>(∃y,e=.returned (.float .f64 y)/\Flo.Cu Ieee.double y (A *(2^Flo.u64:Nat)))/\w=w':=by
 obtain⟨s,m,e,hd,hv⟩:=A6n hz
 have hr:∀w,(callFunc 101 #[.float .f64 z]).run Vp.prog w=.ok (.value (.float .f64 (FloatKind.f64.encode ((Ieee.Datum.number s m e).integral .down)))) w:=fun w=>by
  rw[M9,L0 z s m e hd]
  rfl
 have HV:=Ai1 hv;generalize FloatKind.f64.encode ((Ieee.Datum.number s m e).integral .down)=y at *;clear hz hv hd
 go_enter Vp.func76,Tryz.ntmps76
 go_wp2
 go_ret
 exact⟨⟨y,rfl,HV.out⟩,rfl⟩
theorem Md (x d:Nat)(hx:x<4294967296)(hd:d<=11)(h:Flo.Be x d=true)(w:World):Calls Vp.prog 55 #[.float .f32 x,.int .i64 d] w fun e w'=>e=.returned (.bool true)/\w=w':=by
 obtain⟨A,hA,hb⟩:=Flo.J9 hx hd h;have hdp:2^d<=2^11:=Ain (by omega) hd
 obtain⟨y1,h1,v1⟩:=Flo.Dj hA;have hD:Flo.Cu Ieee.double (floatOfInt .f64 ((2^d:Nat):Int)) (((2^d:Nat):Int) *(2^Flo.u64:Nat)):=Flo.Df (k:=.f64) Flo.Ci _ (by rw[Aih];show _<2*Ieee.double.binade;rw[Flo.Am];omega) (by show(Flo.u64+2)*Ieee.double.binade<=Ieee.double.infRung;rw[Flo.Bn,Flo.F8];exact Ai7 _ (by omega))
 have hrep:Flo.Oe Ieee.double (A *(2^Flo.u64:Nat)):=by
  refine Flo.Gz (m:=A.natAbs) (e:=Flo.u64) (by rw[Ais,Aih]) (by rw[Flo.Am];omega) ?_
  rw[Flo.Bn,Flo.F8]
  exact Ai7 _ (by omega)
 have hc:A *(2^(Flo.u32-d):Nat) *(2^Flo.Gj:Nat) *(((2^d:Nat):Int) *(2^Flo.u64:Nat))=A *(2^Flo.u64:Nat) *(2^Flo.u64:Nat):=by
  have e:(2^(Flo.u32-d)*2^Flo.Gj*2^d:Nat)=2^Flo.u64:=by
   rw[<-Ail,<-Ail]
   congr 1
   rw[Flo.Fv,Flo.Mz,Flo.F8];omega
  have e2:((2^(Flo.u32-d):Nat):Int) *(2^Flo.Gj:Nat) *(2^d:Nat)=(2^Flo.u64:Nat):=by
   have:=congrArg (fun x:Nat=>(x:Int)) e
   simp only[Aj3]at this
   exact this
  generalize ((2^(Flo.u32-d):Nat):Int)=P at *;generalize ((2^Flo.Gj:Nat):Int)=Q at *;generalize ((2^Flo.u64:Nat):Int)=R at *;generalize ((2^d:Nat):Int)=S at *
  calc A*P*Q *(S*R)=A *(P*Q*S)*R:=by simp only[Ajs]
   _=A*R*R:=by rw[e2]
 obtain⟨y,hy,v2⟩:=Flo.Gx (f:=Ieee.double) (c:=A *(2^Flo.u64:Nat)) Flo.Ci v1 hD hc hrep;have hF:=Ai1 (Nl y A v2);have hee:Hid (∀t,Flo.Cu Ieee.double t (A *(2^Flo.u64:Nat)) ->(FloatKind.f64.format.order y t == some .eq)=true):=fun t ht=>by rw[Flo.Cj (k:=.f64) v2 ht];simp
 obtain⟨q,hq⟩:∃q:Int,wrap64 (2^d)=q:=⟨_,rfl⟩;have hqd:((2^d:Nat):Int)=q:=by rw[<-hq,L5 d hd]
 rw[hqd]at hy;have g1:=fun w=>Ajy (P:=Vp.prog) w 74 129 .f32 .f64 _ _ (by kernel_rfl) (Vp.Di Tryz.underlying129) h1
 have g2:=fun w=>Aj6 (P:=Vp.prog) w .mul 129 .f64 _ _ _ hy
 have hw:=Flo.Ho hx (by unfold Flo.Be at h;rw[Aia]at h;exact h.1)
 have t1:(FloatKind.f32.format.order 3229614080 x == some .lt || FloatKind.f32.format.order 3229614080 x == some .eq)=true:=by
  rw[Flo.Fl (k:=.f32) Flo.E9 hw.1,Flo.Cj (k:=.f32) Flo.E9 hw.1];have:=hw.2;simp only[Al2,Aiv];generalize 2^Flo.u32=U at *
  omega
 have t2:(FloatKind.f32.format.order x 1082130432 == some .lt || FloatKind.f32.format.order x 1082130432 == some .eq)=true:=by
  unfold Flo.Be Flo.Dw at h;rw[Aia,Aia]at h
  exact h.1.2
 clear h hA hb hdp h1 v1 hD hrep hc hy v2 hqd hw hx
 go_enter Vp.func55,Tryz.ntmps55
 go_wp2_with (go_at_call 76;refine(hF.out _).mono ?_;rintro e w' ⟨⟨t,rfl,ht⟩,rfl⟩;have hte:=hee.out t ht;clear ht)
 go_ret
 exact⟨rfl,rfl⟩
theorem Yd (cx cy:Nat)(deep size:Int)(hx:cx<4294967296)(hy:cy<4294967296)(h:Az cx cy deep size=true)(w:World):Calls Vp.prog 31 #[.complex .f32 cx cy,.int .i64 deep,.int .i64 size] w fun e w'=>e=.returned (.bool true)/\w=w':=by
 obtain⟨h1,h2,h3,h4⟩:=Bj h;obtain⟨d,rfl⟩:=Ajc h1;unfold Az at h;rw[Aia,Aia,Ajk]at h;have hX:=Ai1 (Md cx d hx (by omega) h.1.2)
 have hY:=Ai1 (Md cy d hy (by omega) h.2)
 clear h;have a1:decide ((d:Int)<0)=false:=by simp
 have a2:decide (10 <(d:Int))=false:=by simpa using h2
 have a3:decide (size<1)=false:=by simpa using h3
 have a4:decide (8<size)=false:=by simpa using h4
 go_enter Vp.func31,Tryz.ntmps31
 go_wp2_with (first |(go_at_call 55;(with_reducible refine(hX.out _).mono ?_);rintro e w' ⟨rfl,rfl⟩) |(go_at_call 55;(with_reducible refine(hY.out _).mono ?_);rintro e w' ⟨rfl,rfl⟩))
 go_ret
 exact⟨rfl,rfl⟩
end
section
open Go.RowKit
theorem A3l (f:Ieee.Format)(x y:Nat):f.order y x=(f.order x y).map Ordering.swap:=by
 unfold Ieee.Format.order
 cases f.read x with
 | nan s t=>cases f.read y<;>rfl
 | infinity s =>
   cases f.read y with
   | nan=>rfl
   | infinity t=>cases s<;>cases t<;>rfl
   | number=>cases s<;>rfl
 | number s m i =>
   cases f.read y with
   | nan=>rfl
   | infinity t=>cases t<;>rfl
   | number t n j =>
     simp only[Ieee.Datum.order,Akw,Ajj];rw[Int.min_comm j i]
     exact Std.OrientedCmp.eq_swap
theorem A4z (f:Ieee.Format)(x y:Nat):(f.order y x == some .lt || f.order y x == some .eq)=(f.order x y == some .gt || f.order x y == some .eq):=by
 rw[A3l f x y]
 cases f.order x y with
 | none=>rfl
 | some o=>cases o<;>rfl
theorem Xo (s:Bool)(n drop:Nat):Ieee.Toward.down.cut s n drop<=n / 2^drop+1:=by
 have h:=Flo.Zz s n drop;unfold Ieee.Toward.cut at h ⊢;simp only[Bool.toNat_false,Nat.add_zero]at h;simp only[h];have:∀b:Bool,b.toNat<=1:=by decide
 have:=this (s && n % (1 <<< min drop (n.log2+2)) != 0)
 omega
theorem A6m {z:Nat}{v:Int}(hz:Flo.Cu Ieee.double z v)(hb:v.natAbs<=1048576*2^Flo.u64) :
 ∃(s:Bool) (m:Nat) (e B:Int),FloatKind.f64.decode z=.number s m e/\Flo.Cu Ieee.double (FloatKind.f64.encode ((Ieee.Datum.number s m e).integral .down)) (B *(2^Flo.u64:Nat)):=by
 have hd:=Flo.Cr hz
 obtain⟨K,hK,hK2⟩:∃K,Ieee.Toward.down.cut (Flo.Ht Ieee.double z) (Flo.rm Ieee.double (Flo.Ae Ieee.double z) <<<(Ieee.double.leastPlace+Flo.re Ieee.double (Flo.Ae Ieee.double z)).toNat) (-(Ieee.double.leastPlace +(Flo.re Ieee.double (Flo.Ae Ieee.double z):Int))).toNat=K/\K<=1048577:=by
  refine⟨_,rfl,?_⟩
  refine Ai5 (Xo _ _ _) ?_
  rw[Flo.Ci];rw[hd]at hb;generalize Flo.re Ieee.double (Flo.Ae Ieee.double z)=e at *;generalize Flo.rm Ieee.double (Flo.Ae Ieee.double z)=m at *
  rcases Nat.le_total Flo.u64 e with h|h
  ·obtain⟨r,rfl⟩:∃r,e=r+Flo.u64:=⟨e-Flo.u64,by omega⟩
   have e1:(-(Flo.u64:Int) +((r+Flo.u64:Nat):Int)).toNat=r:=by omega
   have e2:(-(-(Flo.u64:Int) +((r+Flo.u64:Nat):Int))).toNat=0:=by omega
   rw[e1,e2,Alu,Nat.div_one,Al7];rw[Ail,<-Aiy]at hb;have:=Ak7 hb (Aib Flo.u64)
   omega
  ·obtain⟨r,hr⟩:∃r,Flo.u64=r+e:=⟨Flo.u64-e,by omega⟩
   have e1:(-(Flo.u64:Int) +(e:Int)).toNat=0:=by omega
   have e2:(-(-(Flo.u64:Int) +(e:Int))).toNat=r:=by omega
   rw[e1,e2,Nat.shiftLeft_zero];rw[hr,Ail,<-Aiy]at hb;have h1:=Ak7 hb (Aib e);have h2:m / 2^r<=1048576:=Nat.div_le_of_le_mul (by rw[Aj7];exact h1)
   omega
 refine⟨_,_,_,if Flo.Ht Ieee.double z then -(K:Int)else K,Flo.Ax hz.fin,?_⟩
 show Flo.Cu Ieee.double (Ieee.double.nearest (Flo.Ht Ieee.double z) (Ieee.Toward.down.cut (Flo.Ht Ieee.double z) (Flo.rm Ieee.double (Flo.Ae Ieee.double z) <<<(Ieee.double.leastPlace+Flo.re Ieee.double (Flo.Ae Ieee.double z)).toNat) (-(Ieee.double.leastPlace +(Flo.re Ieee.double (Flo.Ae Ieee.double z):Int))).toNat) 0) _
 rw[hK];generalize Flo.Ht Ieee.double z=s at *
 have hna:((if s then -(K:Int)else K) *((2^Flo.u64:Nat):Int)).natAbs=K*2^Flo.u64:=by
  rw[Ais,Aih]
  cases s<;>simp
 have hpos:(0:Int) <((2^Flo.u64:Nat):Int):=by have:=Aib Flo.u64;omega
 refine Flo.Fa (a:=Flo.u64) (b:=0) (Flo.Gz (m:=K) (e:=Flo.u64) hna (by rw[Flo.Am];omega) ?_) (by rw[Flo.Ci];omega) (by rw[hna,Alu,Alq]) (fun hneg=>?_) (fun hp=>?_)
 ·rw[Flo.Bn,Flo.F8];exact Ai7 _ (by omega)
 ·cases s
  ·exfalso
   have:(0:Int) <=(K:Int) *((2^Flo.u64:Nat):Int):=Ak0 (by omega) (by omega)
   simp only[Aj8,Alx]at hneg
   omega
  ·rfl
 ·cases s
  ·rfl
  ·exfalso
   have:(0:Int) <=(K:Int) *((2^Flo.u64:Nat):Int):=Ak0 (by omega) (by omega)
   simp only[Amg,Alr]at hp
   omega
theorem Ue (z:Nat)(v:Int)(hz:Flo.Cu Ieee.double z v)(hb:v.natAbs<=1048576*2^Flo.u64)(w:World):Calls Vp.prog 76 #[.float .f64 z] w fun e w'=>(∃(y:Nat) (B:Int),e=.returned (.float .f64 y)/\Flo.Cu Ieee.double y (B *(2^Flo.u64:Nat)))/\w=w':=by
 obtain⟨s,m,e,B,hd,hv⟩:=A6m hz hb
 have hr:∀w,(callFunc 101 #[.float .f64 z]).run Vp.prog w=.ok (.value (.float .f64 (FloatKind.f64.encode ((Ieee.Datum.number s m e).integral .down)))) w:=fun w=>by
  rw[M9,L0 z s m e hd]
  rfl
 have HV:=Ai1 hv;generalize FloatKind.f64.encode ((Ieee.Datum.number s m e).integral .down)=y at *;clear hz hb hv hd
 go_enter Vp.func76,Tryz.ntmps76
 go_wp2
 go_ret
 exact⟨⟨y,B,rfl,HV.out⟩,rfl⟩
end
end Go.Proofs.YtlfleicchbgcmaaGreat
section
namespace Go.Proofs.YtlfleicchbgcmaaGreat
open Go.RowKit
namespace Flo
open Ieee
theorem A1n (x:Nat):Ae single (x % 4294967296)=Ae single x:=by
 unfold Ae;rw[show single.signWeight=2147483648 from by decide]
 omega
theorem A5n (x:Nat):Ht single (x % 4294967296)=Ht single x:=by
 unfold Ht;rw[show single.signWeight=2147483648 from by decide]
 rw[show x % 4294967296 / 2147483648 % 2=x / 2147483648 % 2 from by omega]
theorem A38 (x:Nat):iv single (x % 4294967296)=iv single x:=by unfold iv;rw[A1n,A5n]
theorem Ku (x:Nat):single.read (x % 4294967296)=single.read x:=by
 have h1:=A1n x;have h2:=A5n x;unfold Ae at h1;unfold Ht at h2;unfold Format.read;rw[h1,h2]
theorem Agl (x y:Nat):FloatKind.f32.format.order (x % 4294967296) y=FloatKind.f32.format.order x y:=by
 show(single.read _).order _=(single.read _).order _
 rw[Ku]
theorem Aho (x y:Nat):FloatKind.f32.format.order x (y % 4294967296)=FloatKind.f32.format.order x y:=by
 show(single.read _).order (single.read _)=(single.read _).order (single.read _)
 rw[Ku]
theorem Adq (x:Nat):floatToFloatBits .f32 (x % 4294967296) .f64=floatToFloatBits .f32 x .f64:=by
 unfold floatToFloatBits;rw[Aid (by decide),Aid (by decide)]
 rw[show FloatKind.decode .f32 (x % 4294967296)=FloatKind.decode .f32 x from Ku x]
theorem Ah7 (x y:Nat):floatBits .add .f32 (x % 4294967296) y=floatBits .add .f32 x y:=by
 show single.add _ _=single.add _ _
 unfold Format.add;rw[Ku]
theorem mulM (x y:Nat):floatBits .mul .f32 (x % 4294967296) y=floatBits .mul .f32 x y:=by
 show single.mul _ _=single.mul _ _
 unfold Format.mul;rw[Ku]
theorem Mr (x:Nat):Dw (x % 4294967296)=Dw x:=by unfold Dw;simp only[Agl]
theorem My (x d:Nat):Be (x % 4294967296) d=Be x d:=by unfold Be;rw[Mr,A38]
end Flo
theorem Rn (x d:Nat)(hd:d<=11)(h:Flo.Be x d=true)(w:World):Calls Vp.prog 55 #[.float .f32 x,.int .i64 d] w fun e w'=>e=.returned (.bool true)/\w=w':=by
 have hx:x % 4294967296<4294967296:=Akz _ (by decide)
 rw[<-Flo.My]at h;obtain⟨A,hA,hb⟩:=Flo.J9 hx hd h;have hdp:2^d<=2^11:=Ain (by omega) hd
 obtain⟨y1,h1,v1⟩:=Flo.Dj hA;have hD:Flo.Cu Ieee.double (floatOfInt .f64 ((2^d:Nat):Int)) (((2^d:Nat):Int) *(2^Flo.u64:Nat)):=Flo.Df (k:=.f64) Flo.Ci _ (by rw[Aih];show _<2*Ieee.double.binade;rw[Flo.Am];omega) (by show(Flo.u64+2)*Ieee.double.binade<=Ieee.double.infRung;rw[Flo.Bn,Flo.F8];exact Ai7 _ (by omega))
 have hrep:Flo.Oe Ieee.double (A *(2^Flo.u64:Nat)):=by
  refine Flo.Gz (m:=A.natAbs) (e:=Flo.u64) (by rw[Ais,Aih]) (by rw[Flo.Am];omega) ?_
  rw[Flo.Bn,Flo.F8]
  exact Ai7 _ (by omega)
 have hc:A *(2^(Flo.u32-d):Nat) *(2^Flo.Gj:Nat) *(((2^d:Nat):Int) *(2^Flo.u64:Nat))=A *(2^Flo.u64:Nat) *(2^Flo.u64:Nat):=by
  have e:(2^(Flo.u32-d)*2^Flo.Gj*2^d:Nat)=2^Flo.u64:=by
   rw[<-Ail,<-Ail]
   congr 1
   rw[Flo.Fv,Flo.Mz,Flo.F8];omega
  have e2:((2^(Flo.u32-d):Nat):Int) *(2^Flo.Gj:Nat) *(2^d:Nat)=(2^Flo.u64:Nat):=by
   have:=congrArg (fun x:Nat=>(x:Int)) e
   simp only[Aj3]at this
   exact this
  generalize ((2^(Flo.u32-d):Nat):Int)=P at *;generalize ((2^Flo.Gj:Nat):Int)=Q at *;generalize ((2^Flo.u64:Nat):Int)=R at *;generalize ((2^d:Nat):Int)=S at *
  calc A*P*Q *(S*R)=A *(P*Q*S)*R:=by simp only[Ajs]
   _=A*R*R:=by rw[e2]
 obtain⟨y,hy,v2⟩:=Flo.Gx (f:=Ieee.double) (c:=A *(2^Flo.u64:Nat)) Flo.Ci v1 hD hc hrep;have hF:=Ai1 (Nl y A v2);have hee:Hid (∀t,Flo.Cu Ieee.double t (A *(2^Flo.u64:Nat)) ->(FloatKind.f64.format.order y t == some .eq)=true):=fun t ht=>by rw[Flo.Cj (k:=.f64) v2 ht];simp
 obtain⟨q,hq⟩:∃q:Int,wrap64 (2^d)=q:=⟨_,rfl⟩;have hqd:((2^d:Nat):Int)=q:=by rw[<-hq,L5 d hd]
 rw[hqd]at hy;rw[Flo.Adq]at h1;have g1:=fun w=>Ajy (P:=Vp.prog) w 74 129 .f32 .f64 _ _ (by kernel_rfl) (Vp.Di Tryz.underlying129) h1
 have g2:=fun w=>Aj6 (P:=Vp.prog) w .mul 129 .f64 _ _ _ hy
 have hw:=Flo.Ho hx (by unfold Flo.Be at h;rw[Aia]at h;exact h.1)
 have t1:(FloatKind.f32.format.order 3229614080 (x % 4294967296) == some .lt || FloatKind.f32.format.order 3229614080 (x % 4294967296) == some .eq)=true:=by
  rw[Flo.Fl (k:=.f32) Flo.E9 hw.1,Flo.Cj (k:=.f32) Flo.E9 hw.1];have:=hw.2;simp only[Al2,Aiv];generalize 2^Flo.u32=U at *
  omega
 have t2:(FloatKind.f32.format.order (x % 4294967296) 1082130432 == some .lt || FloatKind.f32.format.order (x % 4294967296) 1082130432 == some .eq)=true:=by
  unfold Flo.Be Flo.Dw at h;rw[Aia,Aia]at h
  exact h.1.2
 rw[Flo.Aho]at t1;rw[Flo.Agl]at t2;clear h hA hb hdp h1 v1 hD hrep hc hy v2 hqd hw hx
 go_enter Vp.func55,Tryz.ntmps55
 go_wp2_with (go_at_call 76;refine(hF.out _).mono ?_;rintro e w' ⟨⟨t,rfl,ht⟩,rfl⟩;have hte:=hee.out t ht;clear ht)
 go_ret
 exact⟨rfl,rfl⟩
theorem Rm (x d:Nat)(hd:d<=11)(h:Flo.Be x d=false)(w:World):Calls Vp.prog 55 #[.float .f32 x,.int .i64 d] w fun e w'=>e=.returned (.bool false)/\w=w':=by
 unfold Flo.Be at h
 cases hin:Flo.Dw x with
 | false =>
   unfold Flo.Dw at hin;rw[<-A4z]at hin
   cases t1:(FloatKind.f32.format.order 3229614080 x == some .lt || FloatKind.f32.format.order 3229614080 x == some .eq)with
   | false =>
     clear h hin
     go_enter Vp.func55,Tryz.ntmps55
     go_wp2
     go_ret
     exact⟨rfl,rfl⟩
   | true =>
     rw[t1,Al5]at hin;have t2:=hin;clear h hin
     go_enter Vp.func55,Tryz.ntmps55
     go_wp2
     go_ret
     exact⟨rfl,rfl⟩
 | true =>
   rw[hin,Al5,Amu]at h;obtain⟨hv,hb⟩:=Flo.Ho (Akz x (by decide)) ((Flo.Mr x).trans hin)
   rw[Flo.A38]at hv hb;obtain⟨v,hvv⟩:∃v,Flo.iv Ieee.single x=v:=⟨_,rfl⟩;rw[hvv]at hv hb h;have hdp:2^d<=2^11:=Ain (by omega) hd
   obtain⟨y1,h1,v1⟩:=Flo.Dj hv;have hD:Flo.Cu Ieee.double (floatOfInt .f64 ((2^d:Nat):Int)) (((2^d:Nat):Int) *(2^Flo.u64:Nat)):=Flo.Df (k:=.f64) Flo.Ci _ (by rw[Aih];show _<2*Ieee.double.binade;rw[Flo.Am];omega) (by show(Flo.u64+2)*Ieee.double.binade<=Ieee.double.infRung;rw[Flo.Bn,Flo.F8];exact Ai7 _ (by omega))
   have hdg:=Flo.Cr hv;have hre:=Flo.A1h (e:=254) hv.fin (by decide)
   have hrm:=Flo.Nw Ieee.single (Flo.Ae Ieee.single (x % 4294967296));rw[Flo.Br]at hrm
   have hrep:Flo.Oe Ieee.double (v *(2^Flo.Gj:Nat) *(2^d:Nat)):=by
    refine Flo.Gz (m:=Flo.rm Ieee.single (Flo.Ae Ieee.single (x % 4294967296))) (e:=Flo.re Ieee.single (Flo.Ae Ieee.single (x % 4294967296))+Flo.Gj+d) ?_ (by rw[Flo.Am];omega) ?_
    ·rw[Ais,Ais,Aih,Aih,hdg,Ail,Ail];simp only[Aiy]
    ·rw[Flo.Bn,Flo.Mz];exact Ai7 _ (by omega)
   have hc:v *(2^Flo.Gj:Nat) *(((2^d:Nat):Int) *(2^Flo.u64:Nat))=v *(2^Flo.Gj:Nat) *(2^d:Nat) *(2^Flo.u64:Nat):=by
    simp only[Ajs]
   obtain⟨y,hy,v2⟩:=Flo.Gx (f:=Ieee.double) (c:=v *(2^Flo.Gj:Nat) *(2^d:Nat)) Flo.Ci v1 hD hc hrep;have hU:(2^Flo.u64:Nat)=2^Flo.u32*2^Flo.Gj:=by rw[<-Ail];congr 1
   have hV:(v *(2^Flo.Gj:Nat) *(2^d:Nat)).natAbs<=1048576*2^Flo.u64:=by
    rw[Ais,Ais,Aih,Aih,hU]
    calc v.natAbs*2^Flo.Gj*2^d <=(4*2^Flo.u32)*2^Flo.Gj*2^11:=Ajm (Ai7 _ hb) hdp
     _=8192 *(2^Flo.u32*2^Flo.Gj):=by rw[Aj7,<-Aiy,<-Aiy,Aiy]
     _<=1048576 *(2^Flo.u32*2^Flo.Gj):=Ai7 _ (by omega)
   have hne:∀B:Int,v *(2^Flo.Gj:Nat) *(2^d:Nat)≠B *(2^Flo.u64:Nat):=by
    intro B hB
    apply h
    rw[hU,Aj3,<-Ajs,Int.mul_right_comm v]at hB;have hp:((2^Flo.Gj:Nat):Int)≠0:=by have:=Aib Flo.Gj;omega
    have:=Int.eq_of_mul_eq_mul_right hp hB;rw[this]
    exact Int.mul_emod_left _ _
   have hF:=Ai1 (Ue y _ v2 hV);have hee:Hid (∀(t:Nat) (B:Int),Flo.Cu Ieee.double t (B *(2^Flo.u64:Nat)) ->(FloatKind.f64.format.order y t == some .eq)=false):=fun t B ht=>by rw[Flo.Cj (k:=.f64) v2 ht];simpa using hne B
   obtain⟨q,hq⟩:∃q:Int,wrap64 (2^d)=q:=⟨_,rfl⟩;have hqd:((2^d:Nat):Int)=q:=by rw[<-hq,L5 d hd]
   rw[hqd]at hy;rw[Flo.Adq]at h1;have g1:=fun w=>Ajy (P:=Vp.prog) w 74 129 .f32 .f64 _ _ (by kernel_rfl) (Vp.Di Tryz.underlying129) h1
   have g2:=fun w=>Aj6 (P:=Vp.prog) w .mul 129 .f64 _ _ _ hy
   unfold Flo.Dw at hin;rw[<-A4z,Aia]at hin;obtain⟨t1,t2⟩:=hin;clear h hv hb hvv hdp h1 v1 hD hdg hre hrm hrep hc hy v2 hqd hU hV hne
   go_enter Vp.func55,Tryz.ntmps55
   go_wp2_with (go_at_call 76;refine(hF.out _).mono ?_;rintro e w' ⟨⟨t,B,rfl,ht⟩,rfl⟩;have hte:=hee.out t B ht;clear ht)
   go_ret
   exact⟨rfl,rfl⟩
theorem Kf (x d:Nat)(hd:d<=11)(w:World):Calls Vp.prog 55 #[.float .f32 x,.int .i64 d] w fun e w'=>e=.returned (.bool (Flo.Be x d))/\w=w':=by
 cases h:Flo.Be x d with
 | true=>exact Rn x d hd h w
 | false=>exact Rm x d hd h w
theorem Mf (cx cy:Nat)(deep size:Int)(w:World):Calls Vp.prog 31 #[.complex .f32 cx cy,.int .i64 deep,.int .i64 size] w fun e w'=>e=.returned (.bool (Az cx cy deep size))/\w=w':=by
 by_cases hin:0<=deep/\deep<=10/\1<=size/\size<=8
 ·obtain⟨d,rfl⟩:=Ajc hin.1;have hX:=Ai1 (Kf cx d (by omega))
  have hY:=Ai1 (Kf cy d (by omega))
  have HP:Hid (Az cx cy d size=(Flo.Be cx d && Flo.Be cy d)):=by
   show _=_
   unfold Az Gf;rw[Ajk,Aip hin.1,Aip hin.2.1,Aip hin.2.2.1,Aip hin.2.2.2]
   rfl
  have a1:decide ((d:Int)<0)=false:=by simp
  have a2:decide (10 <(d:Int))=false:=by simp;omega
  have a3:decide (size<1)=false:=by simp;omega
  have a4:decide (8<size)=false:=by simp;omega
  rw[HP.out];generalize Flo.Be cx d=b1 at *;generalize Flo.Be cy d=b2 at *;clear HP hin
  cases b1<;>cases b2
  all_goals
   go_enter Vp.func31,Tryz.ntmps31
   go_wp2_with (first |(go_at_call 55;(with_reducible refine(hX.out _).mono ?_);rintro e w' ⟨rfl,rfl⟩) |(go_at_call 55;(with_reducible refine(hY.out _).mono ?_);rintro e w' ⟨rfl,rfl⟩))
   go_ret
   exact⟨rfl,rfl⟩
 ·have HP:Hid (Az cx cy deep size=false):=by
   show _=false
   cases h:Az cx cy deep size with
   | false=>rfl
   | true=>exact absurd (Bj h) (by omega)
  rw[HP.out];clear HP
  by_cases a1:deep<0
  ·have a1:=Aip a1
   go_enter Vp.func31,Tryz.ntmps31
   go_wp2
   go_ret
   exact⟨rfl,rfl⟩
  ·by_cases a2:10<deep
   ·have a1:=Aj0 a1;have a2:=Aip a2
    go_enter Vp.func31,Tryz.ntmps31
    go_wp2
    go_ret
    exact⟨rfl,rfl⟩
   ·by_cases a3:size<1
    ·have a1:=Aj0 a1;have a2:=Aj0 a2;have a3:=Aip a3
     go_enter Vp.func31,Tryz.ntmps31
     go_wp2
     go_ret
     exact⟨rfl,rfl⟩
    ·have a4:8<size:=by omega
     have a1:=Aj0 a1;have a2:=Aj0 a2;have a3:=Aj0 a3;have a4:=Aip a4;clear hin
     go_enter Vp.func31,Tryz.ntmps31
     go_wp2
     go_ret
     exact⟨rfl,rfl⟩
theorem Pq (x d:Nat)(hd:d<=11)(w:World):Calls Vp.prog 66 #[.float .f32 x,.int .i64 d] w fun e w'=>e=.returned (.bool (Flo.Be x d))/\Aq w w':=by
 have hdp:2^d<=2^11:=Ain (by omega) hd
 obtain⟨q,hq⟩:∃q:Int,wrap64 (2^d)=q:=⟨_,rfl⟩;have hqd:((2^d:Nat):Int)=q:=by rw[<-hq,L5 d hd]
 cases h4:Flo.Dw x with
 | false =>
   have hw:Flo.Be x d=false:=by unfold Flo.Be;rw[h4];rfl
   rw[hw];obtain⟨y,w1,h1,_,d1⟩:=Flo.Cm (P:=Vp.prog) .mul (by simp) 74 .f32 x (floatOfInt .f32 q) w
   have HD:=Ai1 d1;unfold Flo.Dw at h4;clear d1 hqd hdp hw
   cases b1:(FloatKind.f32.format.order x 3229614080 == some .gt || FloatKind.f32.format.order x 3229614080 == some .eq)with
   | false =>
     clear h4
     go_enter Vp.func66,Tryz.ntmps66
     go_wp2
     go_ret
     exact⟨rfl,HD.out⟩
   | true =>
     rw[b1,Al5]at h4
     go_enter Vp.func66,Tryz.ntmps66
     go_wp2
     go_ret
     exact⟨rfl,HD.out⟩
 | true =>
   obtain⟨y,n,h1,h2,-,-,h3⟩:=Flo.Q3 (Akz x (by decide)) hd ((Flo.Mr x).trans h4)
   rw[Flo.mulM]at h1;rw[Flo.A38]at h3;have hw:Flo.Be x d=(FloatKind.f32.format.order (floatOfInt .f32 n) y == some .eq):=by unfold Flo.Be;rw[h4,h3];rfl
   rw[hw];rw[hqd]at h1;have g1:∀w,(binOp .mul 74 (.float .f32 x) (.float .f32 (floatOfInt .f32 q))).run Vp.prog w=.ok (.float .f32 y) w:=fun w=>Aj6 w .mul _ .f32 _ _ _ h1
   have g2:∀w,(convert 74 3 (.float .f32 y)).run Vp.prog w=.ok (.int .i64 n) w:=fun w=>Amf w _ _ .f32 .i64 _ _ (by kernel_rfl) (Vp.Di Tryz.underlying3) h2
   unfold Flo.Dw at h4;rw[Aia]at h4;obtain⟨b1,b2⟩:=h4;clear h1 h2 h3 hw hqd hdp
   cases b3:(FloatKind.f32.format.order (floatOfInt .f32 n) y == some .eq)with
   | false =>
     go_enter Vp.func66,Tryz.ntmps66
     go_wp2
     go_ret
     exact⟨rfl,Aq.refl _⟩
   | true =>
     go_enter Vp.func66,Tryz.ntmps66
     go_wp2
     go_ret
     exact⟨rfl,Aq.refl _⟩
theorem Ib (cx cy:Nat)(deep size:Int)(w:World):Calls Vp.prog 44 #[.complex .f32 cx cy,.int .i64 deep,.int .i64 size] w fun e w'=>e=.returned (.bool (Az cx cy deep size))/\Aq w w':=by
 unfold Az
 cases h1:Gf deep 0 10 with
 | false =>
   go_enter Vp.func44,Tryz.ntmps44
   go_wp2_with (go_at_call 19;refine(C7 _ _ _ _).mono ?_;rintro e w' ⟨rfl,rfl⟩)
   go_ret
   exact⟨rfl,Aq.refl _⟩
 | true =>
   cases h2:Gf size 1 8 with
   | false =>
     go_enter Vp.func44,Tryz.ntmps44
     go_wp2_with (go_at_call 19;refine(C7 _ _ _ _).mono ?_;rintro e w' ⟨rfl,rfl⟩)
     go_ret
     exact⟨rfl,Aq.refl _⟩
   | true =>
     obtain⟨d,rfl,hd⟩:∃d:Nat,deep=d/\d<=11:=by
      unfold Gf at h1;simp only[Aia,Aiv]at h1
      exact⟨deep.toNat,by omega,by omega⟩
     rw[Ajk];have HX:=Ai1 (fun w=>Pq cx d hd w)
     have HY:=Ai1 (fun w=>Pq cy d hd w)
     cases h3:Flo.Be cx d with
     | false =>
       rw[h3]at HX
       go_enter Vp.func44,Tryz.ntmps44
       go_wp2_with (first |(go_at_call 19;refine(C7 _ _ _ _).mono ?_;rintro e w' ⟨rfl,rfl⟩) |(go_at_call 66;refine(HX.out _).mono ?_;rintro e w1 ⟨rfl,d1⟩;have H1:=Ai1 d1;clear d1))
       go_ret
       exact⟨rfl,H1.out⟩
     | true =>
       rw[h3]at HX
       cases h4:Flo.Be cy d with
       | false =>
         rw[h4]at HY
         go_enter Vp.func44,Tryz.ntmps44
         go_wp2_with (first |(go_at_call 19;refine(C7 _ _ _ _).mono ?_;rintro e w' ⟨rfl,rfl⟩) |(go_at_call 66;refine(HX.out _).mono ?_;rintro e w1 ⟨rfl,d1⟩;have H1:=Ai1 d1;clear d1 HX) |(go_at_call 66;refine(HY.out _).mono ?_;rintro e w2 ⟨rfl,d1⟩;have H2:=Ai1 (H1.out.trans d1);clear d1))
         go_ret
         exact⟨rfl,H2.out⟩
       | true =>
         rw[h4]at HY
         go_enter Vp.func44,Tryz.ntmps44
         go_wp2_with (first |(go_at_call 19;refine(C7 _ _ _ _).mono ?_;rintro e w' ⟨rfl,rfl⟩) |(go_at_call 66;refine(HX.out _).mono ?_;rintro e w1 ⟨rfl,d1⟩;have H1:=Ai1 d1;clear d1 HX) |(go_at_call 66;refine(HY.out _).mono ?_;rintro e w2 ⟨rfl,d1⟩;have H2:=Ai1 (H1.out.trans d1);clear d1))
         go_ret
         exact⟨rfl,H2.out⟩
end Go.Proofs.YtlfleicchbgcmaaGreat
end
namespace Go.Proofs.YtlfleicchbgcmaaGreat
section
def Ct (l h:Int):Int:=if l<=0/\0<=h then 0 else min (l*l) (h*h)
def Bs (l h:Int):Int:=max (l*l) (h*h)
def N0 (a k:Int):Int:=-((-a) / k)
structure Bx where
 a:Int
 b:Int
 c:Int
 d:Int
def Bx.val (x:Bx):Value:=Ag0 x.a x.b x.c x.d
def Bx.ok (x:Bx):Bool:=Bg x.a x.b x.c x.d
theorem Bx.bd {x:Bx}(h:x.ok=true):-134217728<=x.a/\x.a<=x.b/\x.b<=134217728/\-134217728<=x.c/\x.c<=x.d/\x.d<=134217728:=by
 unfold Bx.ok Bg Gf at h;simp only[Aia,Aiv]at h
 omega
def mLo (x:Bx):Int:=min (min (x.a*x.c) (x.a*x.d)) (min (x.b*x.c) (x.b*x.d))
def mHi (x:Bx):Int:=max (max (x.a*x.c) (x.a*x.d)) (max (x.b*x.c) (x.b*x.d))
def Bx.sq (x:Bx):Bx:=⟨(Ct x.a x.b-Bs x.c x.d) / 16777216,N0 (Bs x.a x.b-Ct x.c x.d) 16777216,2*mLo x / 16777216,N0 (2*mHi x) 16777216⟩
def Bx.add (x y:Bx):Bx:=⟨x.a+y.a,x.b+y.b,x.c+y.c,x.d+y.d⟩
def Bx.next (c z:Bx):Option Bx:=if z.sq.ok=true then(if(z.sq.add c).ok=true then some (z.sq.add c)else none)else none
def Ep (c:Bx):Nat->Option Bx
 | 0=>some ⟨0,0,0,0⟩
 | k+1=>(Ep c k).bind (Bx.next c)
def nLo (z:Bx):Int:=Ct z.a z.b+Ct z.c z.d
def nHi (z:Bx):Int:=Bs z.a z.b+Bs z.c z.d
def M4 (c:Bx)(k:Nat):Bool:=match Ep c k with
 | some z=>decide (1125899906842624<nLo z)
 | none=>false
def whB (c:Bx)(M:Nat):Bool:=(List.range (M+1)).any (M4 c)
def Bx.coarse (x:Bx):Bx:=⟨x.a / 4096,N0 x.b 4096,x.c / 4096,N0 x.d 4096⟩
def Ki (x:Bx):Int:=Bs (x.coarse.a+4096) (x.coarse.b+4096)+Bs x.coarse.c x.coarse.d-1048576
def Mb (x:Bx):Int:=Bs (x.coarse.a-1024) (x.coarse.b-1024)+Bs x.coarse.c x.coarse.d +(x.coarse.b-1024)*4096
def Ke (x:Bx):Int:=(if Mb x<0 then Ct (x.coarse.a-1024) (x.coarse.b-1024)+Ct x.coarse.c x.coarse.d else Bs (x.coarse.a-1024) (x.coarse.b-1024)+Bs x.coarse.c x.coarse.d)*Mb x-Ct x.coarse.c x.coarse.d*4194304
def stB (x:Bx)(M:Nat):Int:=if Ke x<=0\/Ki x<=0 then 1 else if whB x M=true then -1 else 0
theorem Px (x:Int):0<=x*x:=by
 rcases Ale 0 x with h|h
 ·exact Ak0 h h
 ·exact Int.mul_nonneg_of_nonpos_of_nonpos h h
theorem Tc {x k:Int}(h1:-k<=x)(h2:x<=k):x*x<=k*k:=by
 rcases Ale 0 x with h|h
 ·exact Am6 h2 h2 h (by omega)
 ·have:(-x) *(-x)<=k*k:=Am6 (by omega) (by omega) (by omega) (by omega)
  rwa [Int.neg_mul_neg]at this
theorem Gn {x y k:Int}(h1:-k<=x)(h2:x<=k)(h3:-k<=y)(h4:y<=k):-(k*k)<=x*y/\x*y<=k*k:=by
 have hk:0<=k:=by omega
 have key:∀p q:Int,0<=p->p<=k->0<=q->q<=k->0<=p*q/\p*q<=k*k:=fun p q a b c d=>⟨Ak0 a c,Am6 b d c hk⟩
 rcases Ale 0 x with h|h<;>rcases Ale 0 y with g|g
 ·have:=key x y h h2 g h4
  omega
 ·have:=key x (-y) h h2 (by omega) (by omega)
  rw[Int.mul_neg]at this
  omega
 ·have:=key (-x) y (by omega) (by omega) g h4
  rw[Alr]at this
  omega
 ·have:=key (-x) (-y) (by omega) (by omega) (by omega) (by omega)
  rw[Int.neg_mul_neg]at this
  omega
theorem Ew {l h k:Int}(h1:-k<=l)(h2:l<=k):0<=Ct l h/\Ct l h<=k*k:=by
 have a:=Px l;have b:=Px h;have c:=Tc h1 h2;unfold Ct
 split<;>omega
theorem Dd {l h k:Int}(h1:-k<=l)(h2:l<=k)(h3:-k<=h)(h4:h<=k):0<=Bs l h/\Bs l h<=k*k:=by
 have a:=Px l;have b:=Px h;have c:=Tc h1 h2;have d:=Tc h3 h4;unfold Bs
 omega
end
section
open Go.RowKit
theorem Fw {x:Int}(h1:-9223372036854775808<=x)(h2:x<=9223372036854775807):wrap64 x=x:=IntWalk.wrap64_in _ ⟨h1,h2⟩
theorem Aby (a b:Int)(hb:0<b):a / b=if a.tmod b≠0/\a<0 then a.tdiv b-1 else a.tdiv b:=by
 rcases Ale 0 a with h|h
 ·rw[Aid (by omega),Ak8 h]
 ·by_cases ha:a=0
  ·subst ha;simp
  have h1:a.tdiv b=-((-a) / b):=by
   have:a.tdiv b=-((-a).tdiv b):=by rw[Int.neg_tdiv,Int.neg_neg]
   rw[this,Ak8 (by omega)]
  have h2:a.tmod b=-((-a) % b):=by
   have:a.tmod b=-((-a).tmod b):=by rw[Int.neg_tmod,Int.neg_neg]
   rw[this,Int.tmod_eq_emod_of_nonneg (by omega)]
  rw[h1,h2];have e1:=Int.mul_ediv_add_emod (-a) b;have e2:=Int.emod_nonneg (-a) (Int.ne_of_gt hb);have e3:=Int.emod_lt_of_pos (-a) hb;generalize (-a) / b=q at *;generalize (-a) % b=r at *
  split
  ·rw[Int.ediv_eq_iff_of_pos hb];rw[Int.sub_mul,Alr,Ajq q b]
   omega
  ·rename_i hn
   rw[Int.ediv_eq_iff_of_pos hb,Alr,Ajq q b];have:r=0:=by omega
   omega
theorem Hp (a b:Int)(hb:0<b)(h1:-4611686018427387904<=a)(h2:a<=4611686018427387904)(w:World):Calls Vp.prog 121 #[.int .i64 a,.int .i64 b] w fun e w'=>e=.returned (.int .i64 (a / b))/\w=w':=by
 have hf:=Aby a b hb;have hz:(b == 0)=false:=by rw[beq_eq_false_iff_ne];omega
 have hq1:-4611686018427387904<=a.tdiv b/\a.tdiv b<=4611686018427387904:=by
  have e1:(a.tdiv b).natAbs<=a.natAbs:=by rw[Int.natAbs_tdiv];exact Nat.div_le_self _ _
  omega
 obtain⟨q,hq⟩:∃q,a.tdiv b=q:=⟨_,rfl⟩;obtain⟨m,hm⟩:∃m,a.tmod b=m:=⟨_,rfl⟩;obtain⟨r,hr⟩:∃r,a / b=r:=⟨_,rfl⟩;rw[hq,hm,hr]at hf;rw[hq]at hq1;rw[hr];have HB:=Ai1 hq1;have hw1:wrap64 q=q:=Fw (by omega) (by omega)
 have hw2:wrap64 (q-1)=q-1:=Fw (by omega) (by omega)
 have hb':b≠0:=by omega
 clear hq1 hr hb
 by_cases h0:m=0
 ·have t1:(m != 0)=false:=by rw[h0];rfl
  rw[Aid (by omega)]at hf
  subst hf;clear h0 h1 h2
  go_enter Vp.func121,Tryz.ntmps121
  go_wp2
  go_ret
  exact⟨Lt (by first|rfl|exact hw1),rfl⟩
 ·have t1:(m != 0)=true:=by simpa using h0
  by_cases h3:a<0
  ·rw[Aij ⟨h0,h3⟩]at hf;subst hf;clear h0 h1 h2
   go_enter Vp.func121,Tryz.ntmps121
   go_wp2
   go_ret
   exact⟨Lt (by first|rfl|exact hw2|rw[hw1,hw2]),rfl⟩
  ·rw[Aid (by omega)]at hf
   subst hf;clear h0 h1 h2
   go_enter Vp.func121,Tryz.ntmps121
   go_wp2
   go_ret
   exact⟨Lt (by first|rfl|exact hw1),rfl⟩
theorem Lj (a b:Int)(hb:0<b)(h1:-4611686018427387904<=a)(h2:a<=4611686018427387904)(w:World):Calls Vp.prog 122 #[.int .i64 a,.int .i64 b] w fun e w'=>e=.returned (.int .i64 (N0 a b))/\w=w':=by
 have hw1:wrap64 (-a)=-a:=Fw (by omega) (by omega)
 have hq1:-4611686018427387904 <=(-a) / b /\(-a) / b<=4611686018427387904:=by
  have e1:=Int.mul_ediv_add_emod (-a) b;have e2:=Int.emod_nonneg (-a) (Int.ne_of_gt hb);have e3:=Int.emod_lt_of_pos (-a) hb
  constructor
  ·apply Int.le_ediv_of_mul_le hb
   have:-4611686018427387904*b<=-4611686018427387904*1:=Int.mul_le_mul_of_nonpos_left (by omega) (by omega)
   omega
  ·apply Int.ediv_le_of_le_mul hb
   have:4611686018427387904*1<=4611686018427387904*b:=Int.mul_le_mul_of_nonneg_left (by omega) (by omega)
   omega
 have hw2:wrap64 (-((-a) / b))=N0 a b:=Fw (by omega) (by omega)
 have HF:=Ai1 (Hp (-a) b hb (by omega) (by omega))
 clear hq1 h1 h2 hb;rw[<-hw1]at HF;obtain⟨q,hq⟩:∃q,wrap64 (-a) / b=q:=⟨_,rfl⟩;rw[hq]at HF;rw[hw1]at hq;rw[hq]at hw2;clear hw1 hq
 go_enter Vp.func122,Tryz.ntmps122
 go_wp2_with fail
 refine(HF.out _).mono ?_
 rintro e w1 ⟨rfl,rfl⟩
 go_wp2
 go_ret
 exact⟨Lt (by first|rfl|exact hw2),rfl⟩
theorem Dk (a b:Int)(h1:-1000000000<=a)(h2:a<=1000000000)(h3:-1000000000<=b)(h4:b<=1000000000)(w:World):Calls Vp.prog 95 #[.int .i64 a,.int .i64 b] w fun e w'=>e=.returned (.tuple #[.int .i64 (Ct a b),.int .i64 (Bs a b)])/\w=w':=by
 have a1:=Px a;have a2:=Tc h1 h2;have b1:=Px b;have b2:=Tc h3 h4;obtain⟨p,hp,hpv⟩:∃p,wrap64 (a*a)=p/\p=a*a:=⟨_,rfl,Fw (by omega) (by omega)⟩
 obtain⟨q,hq,hqv⟩:∃q,wrap64 (b*b)=q/\q=b*b:=⟨_,rfl,Fw (by omega) (by omega)⟩
 have HV:Hid (Ct a b=(if a<=0/\0<=b then 0 else min p q)/\Bs a b=max p q):=by rw[hpv,hqv];exact⟨rfl,rfl⟩
 clear a1 a2 b1 b2 h1 h2 h3 h4 hpv hqv;generalize Ct a b=r at *;generalize Bs a b=s at *;obtain⟨m,hm⟩:∃m,(if q<p then q else p)=m:=⟨_,rfl⟩
 obtain⟨n,hn⟩:∃n,(if p<q then q else p)=n:=⟨_,rfl⟩
 have HM:Hid (m=min p q):=by show m=_;rw[<-hm];split<;>omega
 have HN:Hid (n=max p q):=by show n=_;rw[<-hn];split<;>omega
 by_cases h0:a<=0
 ·by_cases h1:0<=b
  ·have h:=HV.out;rw[Aij ⟨h0,h1⟩,<-HN.out]at h;obtain⟨rfl,rfl⟩:=h;clear HV HM HN
   go_enter Vp.func95,Tryz.ntmps95
   go_wp2
   all_goals
    go_ret2
    exact⟨rfl,rfl⟩
  ·have h:=HV.out;rw[Aid (by omega),<-HN.out,<-HM.out]at h
   obtain⟨rfl,rfl⟩:=h;clear HV HM HN
   go_enter Vp.func95,Tryz.ntmps95
   go_wp2
   all_goals
    go_ret2
    exact⟨rfl,rfl⟩
 ·have h:=HV.out;rw[Aid (by omega),<-HN.out,<-HM.out]at h
  obtain⟨rfl,rfl⟩:=h;clear HV HM HN
  go_enter Vp.func95,Tryz.ntmps95
  go_wp2
  all_goals
   go_ret2
   exact⟨rfl,rfl⟩
end
section
open Go.RowKit
def Fg (x:Bx):Value:=if x.ok=true then .tuple #[x.val,.bool true]else .tuple #[Ag0 0 0 0 0,.bool false]
theorem Jk (x:Bx):∃(p q r s:Int) (t:Bool),Fg x=.tuple #[.agg #[.int .i64 p,.int .i64 q,.int .i64 r,.int .i64 s],.bool t]:=by
 unfold Fg
 split
 ·exact⟨_,_,_,_,_,rfl⟩
 ·exact⟨_,_,_,_,_,rfl⟩
theorem Vs (a b c d:Int)(w:World):Calls Vp.prog 93 #[.agg #[.int .i64 a,.int .i64 b,.int .i64 c,.int .i64 d]] w fun e w'=>e=.returned (Fg ⟨a,b,c,d⟩)/\Below w.heap.size w w':=by
 have X0:A8 w w.heap.size #[.int .i64 a,.int .i64 b,.int .i64 c,.int .i64 d] 93 ((w.alloc (.cells #[.int .i64 a,.int .i64 b,.int .i64 c,.int .i64 d] 93)).alloc (.cells #[.int .i64 0,.int .i64 0,.int .i64 0,.int .i64 0] 93)):=(A8.new w _ _).alloc _
 have X1:A8 w (w.heap.size+1) #[.int .i64 0,.int .i64 0,.int .i64 0,.int .i64 0] 93 ((w.alloc (.cells #[.int .i64 a,.int .i64 b,.int .i64 c,.int .i64 d] 93)).alloc (.cells #[.int .i64 0,.int .i64 0,.int .i64 0,.int .i64 0] 93)):=by
  have:=(A8.new (w.alloc (.cells #[.int .i64 a,.int .i64 b,.int .i64 c,.int .i64 d] 93)) #[.int .i64 0,.int .i64 0,.int .i64 0,.int .i64 0] 93).up (w0:=w) ((Aik _ _).alloc (Ai3 _) _)
  rwa [Aim]at this
 have HF:Hid (∀W,Below w.heap.size w W->∀u0 u1 u2 u3,Below w.heap.size w ((((W.setCell ⟨w.heap.size+1,0,none⟩ u0).setCell ⟨w.heap.size+1,1,none⟩ u1).setCell ⟨w.heap.size+1,2,none⟩ u2).setCell ⟨w.heap.size+1,3,none⟩ u3)):=fun W h u0 u1 u2 u3 =>
  (((h.setCell (p:=⟨w.heap.size+1,0,none⟩) (by simp) _).setCell (p:=⟨w.heap.size+1,1,none⟩) (by simp) _).setCell (p:=⟨w.heap.size+1,2,none⟩) (by simp) _).setCell (p:=⟨w.heap.size+1,3,none⟩) (by simp) _
 go_enter Vp.func93,Tryz.ntmps93
 go_wp2_with fail
 refine(Cb a b c d _).mono ?_
 rintro e w1 ⟨rfl,hb⟩;replace X0:=X0.step hb;replace X1:=X1.step hb;clear hb;have x0:=X0.cell 0 _ rfl;have x1:=X0.cell 1 _ rfl;have x2:=X0.cell 2 _ rfl;have x3:=X0.cell 3 _ rfl;have c0:=X1.cell 0 _ rfl;have c1:=X1.cell 1 _ rfl;have c2:=X1.cell 2 _ rfl;have c3:=X1.cell 3 _ rfl;have f0:=X1.frozen 0;have f1:=X1.frozen 1;have f2:=X1.frozen 2;have f3:=X1.frozen 3;have HB:=Ai1 X1.old;clear X0 X1
 cases hv:Bg a b c d with
 | false =>
   have HD:Hid (Fg ⟨a,b,c,d⟩=.tuple #[.agg #[.int .i64 0,.int .i64 0,.int .i64 0,.int .i64 0],.bool false]):=by show Fg _=_;unfold Fg Bx.ok;rw[hv];rfl
   go_wp2
   exact Ai6 (v:=.tuple #[.agg #[.int .i64 0,.int .i64 0,.int .i64 0,.int .i64 0],.bool false]) (by simp[results,Tryz.f93,go_sem,c0,c1,c2,c3]) rfl ⟨by rw[HD.out],HF.out _ HB.out _ _ _ _⟩
 | true =>
   have HD:Hid (Fg ⟨a,b,c,d⟩=.tuple #[.agg #[.int .i64 a,.int .i64 b,.int .i64 c,.int .i64 d],.bool true]):=by show Fg _=_;unfold Fg Bx.ok;rw[hv];rfl
   go_wp2
   exact Ai6 (v:=.tuple #[.agg #[.int .i64 a,.int .i64 b,.int .i64 c,.int .i64 d],.bool true]) (by simp[results,Tryz.f93,go_sem,c0,c1,c2,c3]) rfl ⟨by rw[HD.out],HF.out _ HB.out _ _ _ _⟩
theorem A2o (a b c d:Int)(hv:Bg a b c d=true)(w:World):Calls Vp.prog 97 #[.agg #[.int .i64 a,.int .i64 b,.int .i64 c,.int .i64 d]] w fun e w'=>e=.returned (.tuple #[.int .i64 (nLo ⟨a,b,c,d⟩),.int .i64 (nHi ⟨a,b,c,d⟩),.bool true])/\Below w.heap.size w w':=by
 obtain⟨b1,b2,b3,b4,b5,b6⟩:=Bx.bd (x:=⟨a,b,c,d⟩) hv;dsimp only at b1 b2 b3 b4 b5 b6;have l1:=Ew (l:=a) (h:=b) (k:=134217728) (by omega) (by omega)
 have l2:=Ew (l:=c) (h:=d) (k:=134217728) (by omega) (by omega)
 have l3:=Dd (l:=a) (h:=b) (k:=134217728) (by omega) (by omega) (by omega) (by omega)
 have l4:=Dd (l:=c) (h:=d) (k:=134217728) (by omega) (by omega) (by omega) (by omega)
 have HQ:=Ai1 (Dk a b (by omega) (by omega) (by omega) (by omega))
 have HR:=Ai1 (Dk c d (by omega) (by omega) (by omega) (by omega))
 have HL:Hid (nLo ⟨a,b,c,d⟩=Ct a b+Ct c d/\nHi ⟨a,b,c,d⟩=Bs a b+Bs c d):=⟨rfl,rfl⟩;have hw1:wrap64 (Ct a b+Ct c d)=nLo ⟨a,b,c,d⟩:=Fw (by omega) (by omega)
 have hw2:wrap64 (Bs a b+Bs c d)=nHi ⟨a,b,c,d⟩:=Fw (by omega) (by omega)
 clear l1 l2 l3 l4 b1 b2 b3 b4 b5 b6 HL;generalize nLo ⟨a,b,c,d⟩=N1 at *;generalize nHi ⟨a,b,c,d⟩=N2 at *;generalize Ct a b=s1 at *;generalize Ct c d=s3 at *;generalize Bs a b=s2 at *;generalize Bs c d=s4 at *;have X:=A8.new w #[.int .i64 a,.int .i64 b,.int .i64 c,.int .i64 d] 93
 go_enter Vp.func97,Tryz.ntmps97
 go_wp2_with fail
 refine(Cb a b c d _).mono ?_
 rintro e w1 ⟨rfl,hb⟩;replace X:=X.step hb;clear hb;have x0:=X.cell 0 _ rfl;have x1:=X.cell 1 _ rfl;have x2:=X.cell 2 _ rfl;have x3:=X.cell 3 _ rfl;have HB:=Ai1 X.old;clear X;rw[hv]
 go_wp2_with fail
 refine(HQ.out _).mono ?_
 rintro e w2 ⟨rfl,rfl⟩
 go_wp2_with fail
 refine(HR.out _).mono ?_
 rintro e w2 ⟨rfl,rfl⟩
 go_wp2
 exact Ai6 (v:=.tuple #[.int .i64 N1,.int .i64 N2,.bool true]) (by simp[results,Tryz.f97,go_sem,hw1,hw2]) rfl ⟨rfl,HB.out⟩
theorem A6a (a b c d a' b' c' d':Int)(hv:Bg a b c d=true)(hv2:Bg a' b' c' d'=true)(w:World):Calls Vp.prog 99 #[.agg #[.int .i64 a,.int .i64 b,.int .i64 c,.int .i64 d],.agg #[.int .i64 a',.int .i64 b',.int .i64 c',.int .i64 d']] w fun e w'=>e=.returned (Fg ⟨a+a',b+b',c+c',d+d'⟩)/\Below w.heap.size w w':=by
 obtain⟨b1,b2,b3,b4,b5,b6⟩:=Bx.bd (x:=⟨a,b,c,d⟩) hv;obtain⟨g1,g2,g3,g4,g5,g6⟩:=Bx.bd (x:=⟨a',b',c',d'⟩) hv2;dsimp only at b1 b2 b3 b4 b5 b6 g1 g2 g3 g4 g5 g6;obtain⟨S1,hw1,e1⟩:∃s,wrap64 (a+a')=s/\a+a'=s:=⟨_,Fw (by omega) (by omega),rfl⟩
 obtain⟨S2,hw2,e2⟩:∃s,wrap64 (b+b')=s/\b+b'=s:=⟨_,Fw (by omega) (by omega),rfl⟩
 obtain⟨S3,hw3,e3⟩:∃s,wrap64 (c+c')=s/\c+c'=s:=⟨_,Fw (by omega) (by omega),rfl⟩
 obtain⟨S4,hw4,e4⟩:∃s,wrap64 (d+d')=s/\d+d'=s:=⟨_,Fw (by omega) (by omega),rfl⟩
 rw[e1,e2,e3,e4];have HD:=Ai1 (Vs S1 S2 S3 S4);obtain⟨x,y,z,u,t,hx⟩:=Jk ⟨S1,S2,S3,S4⟩;rw[hx]at HD;rw[hx];clear b1 b2 b3 b4 b5 b6 g1 g2 g3 g4 g5 g6 e1 e2 e3 e4 hx;have X0:=((A8.new w #[.int .i64 a,.int .i64 b,.int .i64 c,.int .i64 d] 93).alloc (.cells #[.int .i64 a',.int .i64 b',.int .i64 c',.int .i64 d'] 93)).alloc (.cells #[.int .i64 0,.int .i64 0,.int .i64 0,.int .i64 0] 93)
 have Y0:A8 w (w.heap.size+1) #[.int .i64 a',.int .i64 b',.int .i64 c',.int .i64 d'] 93 (((w.alloc (.cells #[.int .i64 a,.int .i64 b,.int .i64 c,.int .i64 d] 93)).alloc (.cells #[.int .i64 a',.int .i64 b',.int .i64 c',.int .i64 d'] 93)).alloc (.cells #[.int .i64 0,.int .i64 0,.int .i64 0,.int .i64 0] 93)):=by
  have:=((A8.new (w.alloc (.cells #[.int .i64 a,.int .i64 b,.int .i64 c,.int .i64 d] 93)) #[.int .i64 a',.int .i64 b',.int .i64 c',.int .i64 d'] 93).alloc (.cells #[.int .i64 0,.int .i64 0,.int .i64 0,.int .i64 0] 93)).up (w0:=w) ((Aik _ _).alloc (Ai3 _) _)
  rwa [Aim]at this
 have Z0:A8 w (w.heap.size+1+1) #[.int .i64 0,.int .i64 0,.int .i64 0,.int .i64 0] 93 (((w.alloc (.cells #[.int .i64 a,.int .i64 b,.int .i64 c,.int .i64 d] 93)).alloc (.cells #[.int .i64 a',.int .i64 b',.int .i64 c',.int .i64 d'] 93)).alloc (.cells #[.int .i64 0,.int .i64 0,.int .i64 0,.int .i64 0] 93)):=by
  have:=(A8.new ((w.alloc (.cells #[.int .i64 a,.int .i64 b,.int .i64 c,.int .i64 d] 93)).alloc (.cells #[.int .i64 a',.int .i64 b',.int .i64 c',.int .i64 d'] 93)) #[.int .i64 0,.int .i64 0,.int .i64 0,.int .i64 0] 93).up (w0:=w) (((Aik _ _).alloc (Ai3 _) _).alloc (by simp) _)
  rwa [Aim,Aim]at this
 have HF:Hid (∀W,Below w.heap.size w W->∀u0 u1 u2 u3,Below w.heap.size w ((((W.setCell ⟨w.heap.size+1+1,0,none⟩ u0).setCell ⟨w.heap.size+1+1,1,none⟩ u1).setCell ⟨w.heap.size+1+1,2,none⟩ u2).setCell ⟨w.heap.size+1+1,3,none⟩ u3)):=fun W h u0 u1 u2 u3 =>
  (((h.setCell (p:=⟨w.heap.size+1+1,0,none⟩) (by simp;omega) _).setCell (p:=⟨w.heap.size+1+1,1,none⟩) (by simp;omega) _).setCell (p:=⟨w.heap.size+1+1,2,none⟩) (by simp;omega) _).setCell (p:=⟨w.heap.size+1+1,3,none⟩) (by simp;omega) _
 go_enter Vp.func99,Tryz.ntmps99
 go_wp2_with fail
 refine(Cb a b c d _).mono ?_
 rintro e w1 ⟨rfl,hb⟩;replace X0:=X0.step hb;replace Y0:=Y0.step hb;replace Z0:=Z0.step hb;clear hb;have y0:=Y0.cell 0 _ rfl;have y1:=Y0.cell 1 _ rfl;have y2:=Y0.cell 2 _ rfl;have y3:=Y0.cell 3 _ rfl;rw[hv]
 go_wp2_with fail
 refine(Cb a' b' c' d' _).mono ?_
 rintro e w2 ⟨rfl,hb⟩;replace X0:=X0.step hb;replace Y0:=Y0.step hb;replace Z0:=Z0.step hb;clear hb y0 y1 y2 y3;have x0:=X0.cell 0 _ rfl;have x1:=X0.cell 1 _ rfl;have x2:=X0.cell 2 _ rfl;have x3:=X0.cell 3 _ rfl;have y0:=Y0.cell 0 _ rfl;have y1:=Y0.cell 1 _ rfl;have y2:=Y0.cell 2 _ rfl;have y3:=Y0.cell 3 _ rfl;rw[hv2];clear X0 Y0
 go_wp2_with fail
 refine(HD.out _).mono ?_
 rintro e w3 ⟨rfl,hb⟩;replace Z0:=Z0.step hb;clear hb x0 x1 x2 x3 y0 y1 y2 y3;have c0:=Z0.cell 0 _ rfl;have c1:=Z0.cell 1 _ rfl;have c2:=Z0.cell 2 _ rfl;have c3:=Z0.cell 3 _ rfl;have f0:=Z0.frozen 0;have f1:=Z0.frozen 1;have f2:=Z0.frozen 2;have f3:=Z0.frozen 3;have HB:=Ai1 Z0.old;clear Z0
 go_wp2
 exact Ai6 (v:=.tuple #[.agg #[.int .i64 x,.int .i64 y,.int .i64 z,.int .i64 u],.bool t]) (by simp[results,Tryz.f99,go_sem,c0,c1,c2,c3]) rfl ⟨rfl,HF.out _ HB.out _ _ _ _⟩
end
section
open Go.RowKit
theorem Xi (a b c d:Int)(hv:Bg a b c d=true)(w:World):Calls Vp.prog 98 #[.agg #[.int .i64 a,.int .i64 b,.int .i64 c,.int .i64 d]] w fun e w'=>e=.returned (Fg (Bx.sq ⟨a,b,c,d⟩))/\Below w.heap.size w w':=by
 have X0:A8 w w.heap.size #[.int .i64 a,.int .i64 b,.int .i64 c,.int .i64 d] 93 ((w.alloc (.cells #[.int .i64 a,.int .i64 b,.int .i64 c,.int .i64 d] 93)).alloc (.cells #[.int .i64 0,.int .i64 0,.int .i64 0,.int .i64 0] 93)):=(A8.new w _ _).alloc _
 have X1:A8 w (w.heap.size+1) #[.int .i64 0,.int .i64 0,.int .i64 0,.int .i64 0] 93 ((w.alloc (.cells #[.int .i64 a,.int .i64 b,.int .i64 c,.int .i64 d] 93)).alloc (.cells #[.int .i64 0,.int .i64 0,.int .i64 0,.int .i64 0] 93)):=by
  have:=(A8.new (w.alloc (.cells #[.int .i64 a,.int .i64 b,.int .i64 c,.int .i64 d] 93)) #[.int .i64 0,.int .i64 0,.int .i64 0,.int .i64 0] 93).up (w0:=w) ((Aik _ _).alloc (Ai3 _) _)
  rwa [Aim]at this
 have HF:Hid (∀W,Below w.heap.size w W->∀u0 u1 u2 u3,Below w.heap.size w ((((W.setCell ⟨w.heap.size+1,0,none⟩ u0).setCell ⟨w.heap.size+1,1,none⟩ u1).setCell ⟨w.heap.size+1,2,none⟩ u2).setCell ⟨w.heap.size+1,3,none⟩ u3)):=fun W h u0 u1 u2 u3 =>
  (((h.setCell (p:=⟨w.heap.size+1,0,none⟩) (by simp) _).setCell (p:=⟨w.heap.size+1,1,none⟩) (by simp) _).setCell (p:=⟨w.heap.size+1,2,none⟩) (by simp) _).setCell (p:=⟨w.heap.size+1,3,none⟩) (by simp) _
 obtain⟨b1,b2,b3,b4,b5,b6⟩:=Bx.bd (x:=⟨a,b,c,d⟩) hv;dsimp only at b1 b2 b3 b4 b5 b6;have l1:=Ew (l:=a) (h:=b) (k:=134217728) (by omega) (by omega)
 have l2:=Ew (l:=c) (h:=d) (k:=134217728) (by omega) (by omega)
 have l3:=Dd (l:=a) (h:=b) (k:=134217728) (by omega) (by omega) (by omega) (by omega)
 have l4:=Dd (l:=c) (h:=d) (k:=134217728) (by omega) (by omega) (by omega) (by omega)
 have u1:=Gn (x:=a) (y:=c) (k:=134217728) (by omega) (by omega) (by omega) (by omega)
 have u2:=Gn (x:=a) (y:=d) (k:=134217728) (by omega) (by omega) (by omega) (by omega)
 have u3:=Gn (x:=b) (y:=c) (k:=134217728) (by omega) (by omega) (by omega) (by omega)
 have u4:=Gn (x:=b) (y:=d) (k:=134217728) (by omega) (by omega) (by omega) (by omega)
 have HQ:=Ai1 (Dk a b (by omega) (by omega) (by omega) (by omega))
 have HR:=Ai1 (Dk c d (by omega) (by omega) (by omega) (by omega))
 obtain⟨p,hp,ep⟩:∃p,wrap64 (a*c)=p/\a*c=p:=⟨_,Fw (by omega) (by omega),rfl⟩
 obtain⟨q,hq,eq⟩:∃p,wrap64 (a*d)=p/\a*d=p:=⟨_,Fw (by omega) (by omega),rfl⟩
 obtain⟨r,hr,er⟩:∃p,wrap64 (b*c)=p/\b*c=p:=⟨_,Fw (by omega) (by omega),rfl⟩
 obtain⟨t,ht,et⟩:∃p,wrap64 (b*d)=p/\b*d=p:=⟨_,Fw (by omega) (by omega),rfl⟩
 rw[ep]at u1;rw[eq]at u2;rw[er]at u3;rw[et]at u4;obtain⟨m1,h1,v1⟩:∃m,(if q<p then q else p)=m/\m=min p q:=⟨_,rfl,by split<;>omega⟩
 obtain⟨m2,h2,v2⟩:∃m,(if t<r then t else r)=m/\m=min r t:=⟨_,rfl,by split<;>omega⟩
 obtain⟨m3,h3,v3⟩:∃m,(if m2<m1 then m2 else m1)=m/\m=min m1 m2:=⟨_,rfl,by split<;>omega⟩
 obtain⟨n1,g1,z1⟩:∃m,(if p<q then q else p)=m/\m=max p q:=⟨_,rfl,by split<;>omega⟩
 obtain⟨n2,g2,z2⟩:∃m,(if r<t then t else r)=m/\m=max r t:=⟨_,rfl,by split<;>omega⟩
 obtain⟨n3,g3,z3⟩:∃m,(if n1<n2 then n2 else n1)=m/\m=max n1 n2:=⟨_,rfl,by split<;>omega⟩
 have vm:mLo ⟨a,b,c,d⟩=m3:=by unfold mLo;dsimp only;rw[ep,eq,er,et,v3,v1,v2]
 have vn:mHi ⟨a,b,c,d⟩=n3:=by unfold mHi;dsimp only;rw[ep,eq,er,et,z3,z1,z2]
 have bm:-18014398509481984<=m3/\m3<=18014398509481984:=by omega
 have bn:-18014398509481984<=n3/\n3<=18014398509481984:=by omega
 have hsq:Bx.sq ⟨a,b,c,d⟩=⟨(Ct a b-Bs c d) / 16777216,N0 (Bs a b-Ct c d) 16777216,2*m3 / 16777216,N0 (2*n3) 16777216⟩:=by unfold Bx.sq;rw[vm,vn]
 rw[hsq];generalize Ct a b=s1 at *;generalize Ct c d=s3 at *;generalize Bs a b=s2 at *;generalize Bs c d=s4 at *;obtain⟨D1,w1,e1⟩:∃x,wrap64 (s1-s4)=x/\s1-s4=x:=⟨_,Fw (by omega) (by omega),rfl⟩
 obtain⟨D2,w2,e2⟩:∃x,wrap64 (s2-s3)=x/\s2-s3=x:=⟨_,Fw (by omega) (by omega),rfl⟩
 obtain⟨D3,w3,e3⟩:∃x,wrap64 (2*m3)=x/\2*m3=x:=⟨_,Fw (by omega) (by omega),rfl⟩
 obtain⟨D4,w4,e4⟩:∃x,wrap64 (2*n3)=x/\2*n3=x:=⟨_,Fw (by omega) (by omega),rfl⟩
 rw[e1,e2,e3,e4];have HF1:=Ai1 (Hp D1 16777216 (by decide) (by omega) (by omega))
 have HF2:=Ai1 (Lj D2 16777216 (by decide) (by omega) (by omega))
 have HF3:=Ai1 (Hp D3 16777216 (by decide) (by omega) (by omega))
 have HF4:=Ai1 (Lj D4 16777216 (by decide) (by omega) (by omega))
 have HD:=Ai1 (Vs (D1 / 16777216) (N0 D2 16777216) (D3 / 16777216) (N0 D4 16777216));obtain⟨o1,o2,o3,o4,o5,hx⟩:=Jk ⟨D1 / 16777216,N0 D2 16777216,D3 / 16777216,N0 D4 16777216⟩;rw[hx]at HD;rw[hx];clear b1 b2 b3 b4 b5 b6 l1 l2 l3 l4 u1 u2 u3 u4 ep eq er et v1 v2 v3 z1 z2 z3 vm vn bm bn hsq e1 e2 e3 e4 hx;generalize D1 / 16777216=F1 at *;generalize N0 D2 16777216=F2 at *;generalize D3 / 16777216=F3 at *;generalize N0 D4 16777216=F4 at *
 go_enter Vp.func98,Tryz.ntmps98
 go_wp2_with fail
 refine(Cb a b c d _).mono ?_
 rintro e w1 ⟨rfl,hb⟩;replace X0:=X0.step hb;replace X1:=X1.step hb;clear hb;have x0:=X0.cell 0 _ rfl;have x1:=X0.cell 1 _ rfl;have x2:=X0.cell 2 _ rfl;have x3:=X0.cell 3 _ rfl;rw[hv];clear X0
 go_wp2_with fail
 refine(HQ.out _).mono ?_
 rintro e w2 ⟨rfl,rfl⟩
 go_wp2_with fail
 refine(HR.out _).mono ?_
 rintro e w2 ⟨rfl,rfl⟩
 go_wp2_with fail
 refine(HF1.out _).mono ?_
 rintro e w2 ⟨rfl,rfl⟩
 go_wp2_with fail
 refine(HF2.out _).mono ?_
 rintro e w2 ⟨rfl,rfl⟩
 go_wp2_with fail
 refine(HF3.out _).mono ?_
 rintro e w2 ⟨rfl,rfl⟩
 go_wp2_with fail
 refine(HF4.out _).mono ?_
 rintro e w2 ⟨rfl,rfl⟩
 go_wp2_with fail
 refine(HD.out _).mono ?_
 rintro e w3 ⟨rfl,hb⟩;replace X1:=X1.step hb;clear hb x0 x1 x2 x3;have c0:=X1.cell 0 _ rfl;have c1:=X1.cell 1 _ rfl;have c2:=X1.cell 2 _ rfl;have c3:=X1.cell 3 _ rfl;have f0:=X1.frozen 0;have f1:=X1.frozen 1;have f2:=X1.frozen 2;have f3:=X1.frozen 3;have HB:=Ai1 X1.old;clear X1
 go_wp2
 exact Ai6 (v:=.tuple #[.agg #[.int .i64 o1,.int .i64 o2,.int .i64 o3,.int .i64 o4],.bool o5]) (by simp[results,Tryz.f98,go_sem,c0,c1,c2,c3]) rfl ⟨rfl,HF.out _ HB.out _ _ _ _⟩
end
end Go.Proofs.YtlfleicchbgcmaaGreat
