import Derived.Laws.FloatArith
import Derived.Laws.ComplexArith
import Derived.Test.YtjaehldnlamgkaaGreatDoorXe12
import Derived.Test.YtjaehldnlamgkaaGreatDoorXe10
import Derived.Test.YtjaehldnlamgkaaGreatDoorRows
import Derived.Laws.MakeOwn
import Derived.Lib.FrozenHead
import Derived.Deep.RegionWith
import Derived.Test.YtjaehldnlamgkaaGreatDoorXe0
import Derived.Test.YtjaehldnlamgkaaGreatDoorXeK
set_option linter.all false
set_option maxHeartbeats 16000000
set_option maxRecDepth 100000
namespace Go.Proofs.YtjaehldnlamgkaaGreatDoor
end Go.Proofs.YtjaehldnlamgkaaGreatDoor
section
namespace Go.Proofs.YtjaehldnlamgkaaGreatDoor
namespace Flo
open Ieee
def re (f:Format)(r:Nat):Nat:=r / f.binade-1
def rm (f:Format)(r:Nat):Nat:=r-re f r*f.binade
def rv (f:Format)(r:Nat):Nat:=rm f r*2^re f r
theorem Cw (f:Format):0<f.binade:=Am9 _
theorem Akm (f:Format)(r:Nat):re f r*f.binade<=r:=by
 unfold re
 calc (r / f.binade-1)*f.binade<=r / f.binade*f.binade:=Am3 _ (Nat.sub_le _ _)
  _<=r:=Nat.div_mul_le_self _ _
theorem Ys (f:Format)(r:Nat):r=re f r*f.binade+rm f r:=by
 have:=Akm f r;unfold rm;omega
theorem Nq (f:Format)(r:Nat):rm f r<2*f.binade:=by
 unfold rm re;have hp:=Cw f;have h1:=Nat.div_add_mod r f.binade;have h2:=Aps r hp;have h3:f.binade *(r / f.binade)=(r / f.binade)*f.binade:=An3 _ _
 cases hq:r / f.binade with
 | zero=>rw[hq]at h1;simp at h1;simp;omega
 | succ q =>
   rw[hq]at h1 h3;simp only[Aqe];rw[Aon]at h3
   omega
theorem Ww (f:Format)(r:Nat)(h:0<re f r):f.binade<=rm f r:=by
 have hp:=Cw f;unfold rm;unfold re at h ⊢;have h1:=Nat.div_add_mod r f.binade;have h3:f.binade *(r / f.binade)=(r / f.binade)*f.binade:=An3 _ _
 cases hq:r / f.binade with
 | zero=>rw[hq]at h;omega
 | succ q =>
   rw[hq]at h1 h3;simp only[Aqe];rw[Aon]at h3
   omega
theorem Xq {neg:Bool}{n drop m:Nat}(h:n<=m*2^drop):Toward.even.cut neg n drop<=m:=by
 unfold Toward.cut;simp only
 by_cases hd:drop<=n.log2+2
 ·rw[Nat.min_eq_left hd,Aq0];have hp:0<2^drop:=Am9 _;have h1:=Nat.div_add_mod n (2^drop);have h2:=Aps n hp;have hq:n / 2^drop<=m:=Nat.div_le_of_le_mul (by rw[An3];exact h)
  by_cases he:n / 2^drop=m
  ·rw[he]at h1;have h0:n % 2^drop=0:=by rw[An3]at h1;omega
   simp only[h0]
   have hf:(decide (2^drop<2*0) ||(2^drop == 2*0 && n / 2^drop % 2 == 1))=false:=by
    simp
   rw[hf];simpa using hq
  ·cases (decide (2^drop<2 *(n % 2^drop)) ||(2^drop == 2 *(n % 2^drop) && n / 2^drop % 2 == 1))<;>simp<;>omega
 ·have hd':n.log2+2<=drop:=by omega
  rw[Nat.min_eq_right hd',Aq0];have hlt:n<2^(n.log2+1):=Apm;have h2:2^(n.log2+2)=2*2^(n.log2+1):=by rw[Ap9];omega
  have hm:n % 2^(n.log2+2)=n:=Nat.mod_eq_of_lt (by omega)
  have hq:n / 2^(n.log2+2)=0:=Aq6 (by omega)
  rw[hm,hq]
  have hf:(decide (2^(n.log2+2)<2*n) ||(2^(n.log2+2) == 2*n && 0 % 2 == 1))=false:=by
   simp;omega
  rw[hf];simp
theorem Aac {neg:Bool}{n drop m:Nat}(h:m*2^drop<=n):m<=Toward.even.cut neg n drop:=by
 unfold Toward.cut;simp only
 by_cases hd:drop<=n.log2+2
 ·rw[Nat.min_eq_left hd,Aq0];have hp:0<2^drop:=Am9 _;have hq:m<=n / 2^drop:=(Nat.le_div_iff_mul_le hp).2 h
  omega
 ·have hlt:n<2^(n.log2+1):=Apm;have hpp:2^(n.log2+1)<=2^drop:=Amn (by omega) (by omega)
  have:m=0:=by
   cases m with
   | zero=>rfl
   | succ m=>rw[Aon]at h;omega
  rw[this];exact Amu _
def Dm (f:Format)(mag:Nat)(place:Int):Int:=max (place+mag.log2-f.fractionBits) f.leastPlace
def rnd (f:Format)(neg:Bool)(mag:Nat)(place:Int):Nat :=
 if mag=0 then 0 else min ((Dm f mag place-f.leastPlace).toNat*f.binade+Toward.even.cut neg (mag <<<(place-Dm f mag place).toNat) (Dm f mag place-place).toNat) f.infRung
theorem Cl (f:Format)(neg:Bool)(mag:Nat)(place:Int):f.nearest neg mag place=f.word neg (rnd f neg mag place):=by
 unfold Format.nearest rnd Dm
 split<;>rfl
theorem Tn (f:Format)(neg:Bool)(mag:Nat)(place:Int):rnd f neg mag place<=f.infRung:=by
 unfold rnd;split
 ·omega
 ·exact Nat.min_le_right _ _
theorem Vu (f:Format)(mag:Nat)(place:Int):mag*2^(place-Dm f mag place).toNat<2*f.binade*2^(Dm f mag place-place).toNat:=by
 have hl:mag<2^(mag.log2+1):=Apm;unfold Dm;generalize hL:max (place+mag.log2-f.fractionBits) f.leastPlace=L;have h1:place+mag.log2-f.fractionBits<=L:=by omega
 unfold Format.binade
 rcases Apa place L with h|h
 ·have e1:(place-L).toNat=0:=by omega
  rw[e1];have:mag.log2+1<=1+f.fractionBits +(L-place).toNat:=by omega
  calc mag*2^0=mag:=by simp
   _<2^(mag.log2+1):=hl
   _<=2^(1+f.fractionBits +(L-place).toNat):=Amn (by omega) this
   _=2*2^f.fractionBits*2^(L-place).toNat:=by rw[Amj,Amj,Nat.pow_one]
 ·have e1:(L-place).toNat=0:=by omega
  rw[e1];have:mag.log2+1 +(place-L).toNat<=1+f.fractionBits:=by omega
  calc mag*2^(place-L).toNat<2^(mag.log2+1)*2^(place-L).toNat:=Aoj hl (Am9 _)
   _=2^(mag.log2+1 +(place-L).toNat):=by rw[<-Amj]
   _<=2^(1+f.fractionBits):=Amn (by omega) this
   _=2*2^f.fractionBits*2^0:=by rw[Amj];simp
theorem Vt (f:Format)(mag:Nat)(place:Int)(h0:mag≠0)(hl:f.leastPlace<Dm f mag place):f.binade*2^(Dm f mag place-place).toNat<=mag*2^(place-Dm f mag place).toNat:=by
 have hg:2^mag.log2<=mag:=Nat.log2_self_le h0;unfold Dm at hl ⊢;generalize hL:max (place+mag.log2-f.fractionBits) f.leastPlace=L at *;have h1:place+mag.log2-f.fractionBits=L:=by omega
 unfold Format.binade
 rcases Apa place L with h|h
 ·have e1:(place-L).toNat=0:=by omega
  rw[e1];have:f.fractionBits +(L-place).toNat=mag.log2:=by omega
  calc 2^f.fractionBits*2^(L-place).toNat=2^mag.log2:=by rw[<-Amj,this]
   _<=mag*2^0:=by simpa using hg
 ·have e1:(L-place).toNat=0:=by omega
  rw[e1];have:mag.log2 +(place-L).toNat=f.fractionBits:=by omega
  calc 2^f.fractionBits*2^0=2^mag.log2*2^(place-L).toNat:=by rw[<-Amj,<-Amj,this];simp
   _<=mag*2^(place-L).toNat:=Am3 _ hg
theorem Yn {f:Format}{neg:Bool}{mag:Nat}{place:Int}{r a b:Nat}(hp:place-f.leastPlace=(a:Int)-b)(h:mag*2^a<=rv f r*2^b):rnd f neg mag place<=r:=by
 unfold rnd
 split
 ·omega
 ·rename_i h0
  refine Am1 (Nat.min_le_left _ _) ?_
  have hd:=Vu f mag place;have hge:=Vt f mag place h0;have hlast:f.leastPlace<=Dm f mag place:=by unfold Dm;omega
  generalize Dm f mag place=L at *;obtain⟨t,ht⟩:∃t:Nat,(t:Int)=L-f.leastPlace:=⟨(L-f.leastPlace).toNat,by omega⟩
  have et:(L-f.leastPlace).toNat=t:=by omega
  rw[et,Ap3];obtain⟨u,hu⟩:∃u:Nat,(place-L).toNat=u:=⟨_,rfl⟩;obtain⟨v,hv⟩:∃v:Nat,(L-place).toNat=v:=⟨_,rfl⟩;rw[hu,hv]at hd hge ⊢;have hk:a+v=b+t+u:=by omega
  have hx:mag*2^u*2^t<=rv f r*2^v:=by
   have h2:mag*2^a*2^v<=rv f r*2^b*2^v:=Am3 _ h
   have e1:mag*2^a*2^v=mag*2^u*2^t*2^b:=by
    rw[Ams,<-Amj,hk,Amj,Amj];simp only[Ams,An3,Aot]
   have e2:rv f r*2^b*2^v=rv f r*2^v*2^b:=Aoo _ _ _;rw[e1,e2]at h2
   exact Anw h2 (Am9 _)
  have hrv:rv f r=rm f r*2^re f r:=rfl;have hreq:=Ys f r;have hbp:=Cw f
  rcases Aqi (re f r) t with hlt|heq|hgt
  ·
   exfalso
   have h3:=hge (by omega)
   have h4:=Nq f r
   have h5:rv f r<f.binade*2^t:=by
    rw[hrv]
    calc rm f r*2^re f r<2*f.binade*2^re f r:=Aoj h4 (Am9 _)
     _=f.binade*2^(re f r+1):=by rw[Ap9];simp only[Ams,An3,Aot]
     _<=f.binade*2^t:=Ar1 _ (Amn (by omega) hlt)
   have h6:f.binade*2^v*2^t<=mag*2^u*2^t:=Am3 _ h3;have h7:rv f r*2^v<f.binade*2^t*2^v:=Aoj h5 (Am9 _);have h8:f.binade*2^t*2^v=f.binade*2^v*2^t:=Aoo _ _ _
   omega
  ·
   rw[heq]at hrv hreq
   have h9:mag*2^u<=rm f r*2^v:=by
    have e3:rm f r*2^t*2^v=rm f r*2^v*2^t:=Aoo _ _ _;rw[hrv,e3]at hx
    exact Anw hx (Am9 _)
   have:=Xq (neg:=neg) h9
   omega
  ·have h4:=Ww f r (by omega)
   have h9:mag*2^u<=2*f.binade*2^v:=Apt hd;have h10:=Xq (neg:=neg) h9;have h11:(t+1)*f.binade<=re f r*f.binade:=Am3 _ hgt;rw[Aon]at h11
   omega
theorem Ym {f:Format}{neg:Bool}{mag:Nat}{place:Int}{r a b:Nat}(hr:r<=f.infRung)(hp:place-f.leastPlace=(a:Int)-b)(h:rv f r*2^b<=mag*2^a):r<=rnd f neg mag place:=by
 unfold rnd;have hrv:rv f r=rm f r*2^re f r:=rfl;have hreq:=Ys f r;have hbp:=Cw f
 split
 ·rename_i h0
  subst h0;have:rm f r*2^re f r*2^b=0:=by rw[hrv]at h;omega
  have h1:rm f r=0:=by
   rcases Nat.mul_eq_zero.1 this with h|h
   ·rcases Nat.mul_eq_zero.1 h with h|h
    ·exact h
    ·exact absurd h (Nat.ne_of_gt (Am9 _))
   ·exact absurd h (Nat.ne_of_gt (Am9 _))
  have h2:re f r=0:=by
   rcases Ani (re f r)with h|h
   ·exact h
   ·have:=Ww f r h;omega
  rw[h1,h2]at hreq
  omega
 ·rename_i h0
  refine Nat.le_min.2 ⟨?_,hr⟩
  have hd:=Vu f mag place;have hge:=Vt f mag place h0;have hlast:f.leastPlace<=Dm f mag place:=by unfold Dm;omega
  generalize Dm f mag place=L at *;obtain⟨t,ht⟩:∃t:Nat,(t:Int)=L-f.leastPlace:=⟨(L-f.leastPlace).toNat,by omega⟩
  have et:(L-f.leastPlace).toNat=t:=by omega
  rw[et,Ap3];obtain⟨u,hu⟩:∃u:Nat,(place-L).toNat=u:=⟨_,rfl⟩;obtain⟨v,hv⟩:∃v:Nat,(L-place).toNat=v:=⟨_,rfl⟩;rw[hu,hv]at hd hge ⊢;have hk:a+v=b+t+u:=by omega
  have hx:rv f r*2^v<=mag*2^u*2^t:=by
   have h2:rv f r*2^b*2^v<=mag*2^a*2^v:=Am3 _ h
   have e1:mag*2^a*2^v=mag*2^u*2^t*2^b:=by
    rw[Ams,<-Amj,hk,Amj,Amj];simp only[Ams,An3,Aot]
   have e2:rv f r*2^b*2^v=rv f r*2^v*2^b:=Aoo _ _ _;rw[e1,e2]at h2
   exact Anw h2 (Am9 _)
  rcases Aqi (re f r) t with hlt|heq|hgt
  ·have h3:=hge (by omega)
   have h4:=Nq f r;have h10:=Aac (neg:=neg) h3;have h11:(re f r+1)*f.binade<=t*f.binade:=Am3 _ hlt;rw[Aon]at h11
   omega
  ·rw[heq]at hrv hreq
   have h9:rm f r*2^v<=mag*2^u:=by
    rw[hrv,Aoo]at hx
    exact Anw hx (Am9 _)
   have:=Aac (neg:=neg) h9
   omega
  ·exfalso
   have h4:=Ww f r (by omega)
   have h5:2*f.binade*2^t<=rv f r:=by
    rw[hrv]
    calc 2*f.binade*2^t=f.binade*2^(t+1):=by rw[Ap9];simp only[Ams,An3,Aot]
     _<=f.binade*2^re f r:=Ar1 _ (Amn (by omega) hgt)
     _<=rm f r*2^re f r:=Am3 _ h4
   have h6:mag*2^u*2^t<2*f.binade*2^v*2^t:=Aoj hd (Am9 _);have h7:2*f.binade*2^t*2^v<=rv f r*2^v:=Am3 _ h5;have h8:2*f.binade*2^t*2^v=2*f.binade*2^v*2^t:=Aoo _ _ _
   omega
theorem A8k {f:Format}{neg:Bool}{mag:Nat}{place:Int}{r a b:Nat}(hr:r<=f.infRung)(hp:place-f.leastPlace=(a:Int)-b)(h:mag*2^a=rv f r*2^b):rnd f neg mag place=r :=
 Nat.le_antisymm (Yn hp (Aof h)) (Ym hr hp (Aof h.symm))
def A8 (f:Format)(x:Nat):Nat:=x % f.signWeight
def Gv (f:Format)(x:Nat):Bool:=x / f.signWeight % 2 == 1
def fin (f:Format)(x:Nat):Prop:=A8 f x<f.infRung
def iv (f:Format)(x:Nat):Int:=if Gv f x then -(rv f (A8 f x):Int)else rv f (A8 f x)
theorem Ak {f:Format}{x:Nat}(h:fin f x):f.read x=.number (Gv f x) (rm f (A8 f x)) (f.leastPlace+re f (A8 f x)):=by
 unfold fin at h;unfold Format.read;simp only;rw[show x % f.signWeight=A8 f x from rfl];have hbp:=Cw f;have hreq:=Ys f (A8 f x)
 split
 ·rename_i hl
  have e0:re f (A8 f x)=0:=by unfold re;rw[Aq6 hl]
  rw[e0]at hreq ⊢;have:rm f (A8 f x)=A8 f x:=by omega
  rw[this];simp[Gv]
 ·rename_i hl
  try rw[Amo h]
  have h1:=Nat.div_add_mod (A8 f x) f.binade;have h3:f.binade *(A8 f x / f.binade)=(A8 f x / f.binade)*f.binade:=An3 _ _;have hpos:1<=A8 f x / f.binade:=(Nat.le_div_iff_mul_le hbp).2 (by omega)
  have e:rm f (A8 f x)=f.binade+A8 f x % f.binade:=by
   unfold rm re;obtain⟨q,hq⟩:∃q,A8 f x / f.binade=q+1:=⟨A8 f x / f.binade-1,by omega⟩
   rw[hq]at h1 h3 ⊢;simp only[Aqe];rw[Aon]at h3
   omega
  rw[e];rfl
theorem Ts (f:Format):0<f.signWeight:=Am9 _
theorem Oy (f:Format)(s:Bool)(r:Nat)(h:r<f.signWeight):A8 f (f.word s r)=r:=by
 unfold A8 Format.word
 split
 ·rw[Nat.add_mod_left];exact Nat.mod_eq_of_lt h
 ·exact Nat.mod_eq_of_lt h
theorem Ac1 (f:Format)(s:Bool)(r:Nat)(h:r<f.signWeight):Gv f (f.word s r)=s:=by
 unfold Gv Format.word;have hp:=Ts f
 cases s
 ·simp[Aq6 h]
 ·have:(f.signWeight+r) / f.signWeight=1:=by rw[Nat.add_div_left _ hp,Aq6 h]
  simp[this]
theorem Nd (f:Format)(s:Bool)(r:Nat)(h:r<f.infRung):fin f (f.word s r)/\iv f (f.word s r)=if s then -(rv f r:Int)else rv f r:=by
 have hl:=Nat.lt_trans h (Format.infRung_lt f)
 constructor
 ·unfold fin;rw[Oy f s r hl];exact h
 ·unfold iv;rw[Oy f s r hl,Ac1 f s r hl]
theorem A04 (a b:Int)(c:Nat)(h:0<c):compare (a*c) (b*c)=compare a b:=by
 have hc:(0:Int)<c:=by omega
 rcases Ape a b with hl|he|hg
 ·rw[Aq2.2 hl,Aq2.2 (Int.mul_lt_mul_of_pos_right hl hc)]
 ·rw[he,Aqk.2 rfl,Aqk.2 rfl]
 ·rw[Aq3.2 hg,Aq3.2 (Int.mul_lt_mul_of_pos_right hg hc)]
theorem Bn (s:Bool)(m i c:Nat):signed s m (i+c)=signed s m i *(2^c:Nat):=by
 have e:m <<<(i+c)=m <<< i*2^c:=by rw[Ap3,Ap3,Amj,Ams]
 unfold signed;rw[e]
 cases s
 ·simp
 ·simp[Apq]
theorem Dg (f:Format)(x:Nat):signed (Gv f x) (rm f (A8 f x)) (re f (A8 f x))=iv f x:=by
 unfold signed iv rv;rw[Ap3]
theorem A8e {f:Format}{x y:Nat}(hx:fin f x)(hy:fin f y):f.order x y=some (compare (iv f x) (iv f y)):=by
 unfold Format.order;rw[Ak hx,Ak hy];simp only[Datum.order,Anf];have hi:=Dg f x;have hj:=Dg f y;generalize re f (A8 f x)=i at *;generalize re f (A8 f y)=j at *;generalize rm f (A8 f x)=m at *;generalize rm f (A8 f y)=n at *;obtain⟨b,hb⟩:∃b:Nat,min (f.leastPlace +(i:Int)) (f.leastPlace +(j:Int))=f.leastPlace+b:=⟨min i j,by omega⟩
 rw[hb];obtain⟨i',hi'⟩:∃i',i=i'+b:=⟨i-b,by omega⟩
 obtain⟨j',hj'⟩:∃j',j=j'+b:=⟨j-b,by omega⟩
 have e1:(f.leastPlace +(i:Int)-(f.leastPlace+b)).toNat=i':=by omega
 have e2:(f.leastPlace +(j:Int)-(f.leastPlace+b)).toNat=j':=by omega
 rw[e1,e2,<-hi,<-hj,hi',hj',Bn,Bn,A04 _ _ _ (Am9 _)]
structure Cf (f:Format)(x:Nat)(v:Int):Prop where
 lt:x<2^f.width
 fin:fin f x
 iv:iv f x=v
def Pa (f:Format)(v:Int):Prop:=∃r,r<f.infRung/\rv f r=v.natAbs
theorem Cf.rep {f:Format}{x:Nat}{v:Int}(h:Cf f x v):Pa f v:=by
 refine⟨A8 f x,h.fin,?_⟩
 rw[<-h.iv];unfold Flo.iv
 split<;>simp
theorem Ei {f:Format}{s:Bool}{mag:Nat}{place:Int}{a b:Nat}{v:Int}(hr:Pa f v)(hp:place-f.leastPlace=(a:Int)-b)(h:mag*2^a=v.natAbs*2^b)(hs:v<0->s=true)(hs':0<v->s=false):Cf f (f.nearest s mag place) v:=by
 obtain⟨r,hr,hv⟩:=hr;have hx:=A8k (neg:=s) (Apt hr) hp (by rw[h,hv])
 have hw:=Nd f s r hr
 refine⟨Format.nearest_lt _ _ _ _,?_,?_⟩
 ·rw[Cl,hx];exact hw.1
 ·rw[Cl,hx,hw.2,hv]
  rcases Ape v 0 with h|h|h
  ·rw[hs h];simp;omega
  ·subst h;simp
  ·rw[hs' h];simp;omega
theorem Af8 {f:Format}{s t:Bool}{m n i j:Nat}{a b:Int}(hi:signed s m i=a)(hj:signed t n j=b)(hr:Pa f (a+b)) :
 ∃z,((Datum.number s m (f.leastPlace+i)).sum (Datum.number t n (f.leastPlace+j))).map f.write=some z/\Cf f z (a+b):=by
 simp only[Datum.sum,Ao6,Format.write]
 refine⟨_,rfl,?_⟩
 obtain⟨c,hc⟩:∃c:Nat,min (f.leastPlace +(i:Int)) (f.leastPlace +(j:Int))=f.leastPlace+c:=⟨min i j,by omega⟩
 rw[hc];obtain⟨i',hi'⟩:∃i',i=i'+c:=⟨i-c,by omega⟩
 obtain⟨j',hj'⟩:∃j',j=j'+c:=⟨j-c,by omega⟩
 have e1:(f.leastPlace +(i:Int)-(f.leastPlace+c)).toNat=i':=by omega
 have e2:(f.leastPlace +(j:Int)-(f.leastPlace+c)).toNat=j':=by omega
 rw[e1,e2];rw[hi',Bn]at hi;rw[hj',Bn]at hj;generalize signed s m i'=p at *;generalize signed t n j'=q at *;have hsum:(p+q) *(2^c:Nat)=a+b:=by rw[Apc,hi,hj]
 have hp:(0:Int) <(2^c:Nat):=by have:=Am9 c;omega
 refine Ei (a:=c) (b:=0) hr (by omega) ?_ ?_ ?_
 ·rw[<-hsum,Amq];simp
 ·intro hneg
  have:p+q<0:=by
   rcases Aoz (p+q) 0 with h|h
   ·exact h
   ·have:=Anl h (Apb hp);omega
  rw[Amd (by omega)];simpa using this
 ·intro hpos
  have:0<p+q:=by
   rcases Aoz 0 (p+q)with h|h
   ·exact h
   ·have:=Int.mul_nonpos_of_nonpos_of_nonneg h (Apb hp);omega
  rw[Amd (by omega)];simp;omega
theorem Adh {f:Format}{x y:Nat}{a b:Int}(hx:Cf f x a)(hy:Cf f y b)(hr:Pa f (a+b)):∃z,f.add x y=some z/\Cf f z (a+b):=by
 unfold Format.add;rw[Ak hx.fin,Ak hy.fin]
 exact Af8 ((Dg f x).trans hx.iv) ((Dg f y).trans hy.iv) hr
theorem A4t (s:Bool)(m i:Nat):signed (!s) m i=-signed s m i:=by cases s<;>simp[signed]
theorem sign_mul (s t:Bool)(p q:Nat):((if s then -(p:Int)else p) *(if t then -(q:Int)else q)<0 ->(s ^^ t)=true) /\(0 <(if s then -(p:Int)else p) *(if t then -(q:Int)else q) ->(s ^^ t)=false):=by
 have h:=Anl (Apx p) (Apx q);have e1:-(p:Int)*q=-((p:Int)*q):=Apq _ _;have e2:(p:Int)*-(q:Int)=-((p:Int)*q):=Int.mul_neg _ _;have e3:-(p:Int)*-(q:Int)=(p:Int)*q:=Int.neg_mul_neg _ _
 cases s<;>cases t<;>simp only[Amk,Ao5,Apg]<;>refine⟨fun h=>?_,fun h=>?_⟩<;>first|rfl |(exfalso;first|omega |(rw[e3]at h;omega) |(rw[e1]at h;omega) |(rw[e2]at h;omega))
theorem natAbs_sign (s:Bool)(p:Nat):(if s then -(p:Int)else p).natAbs=p:=by cases s<;>simp
theorem Hb {f:Format}{x y:Nat}{a b c:Int}{l:Nat}(hl:f.leastPlace=-(l:Int))(hx:Cf f x a)(hy:Cf f y b)(hc:a*b=c *(2^l:Nat))(hr:Pa f c):∃z,f.mul x y=some z/\Cf f z c:=by
 have hi:=hx.iv;have hj:=hy.iv;unfold Flo.iv rv at hi hj;unfold Format.mul;rw[Ak hx.fin,Ak hy.fin];simp only[Datum.product,Ao6,Format.write]
 refine⟨_,rfl,?_⟩
 generalize re f (A8 f x)=i at *;generalize re f (A8 f y)=j at *;generalize rm f (A8 f x)=m at *;generalize rm f (A8 f y)=n at *;have hpl:(0:Int) <(2^l:Nat):=by have:=Am9 l;omega
 have hs:=sign_mul (Gv f x) (Gv f y) (m*2^i) (n*2^j);have ha:=natAbs_sign (Gv f x) (m*2^i);have hb:=natAbs_sign (Gv f y) (n*2^j);rw[hi]at hs ha;rw[hj]at hs hb
 refine Ei (a:=i+j) (b:=l) hr (by rw[hl];omega) ?_ (fun h=>hs.1 ?_) (fun h=>hs.2 ?_)
 ·have h:=congrArg Int.natAbs hc;rw[Amq,Amq,ha,hb]at h;rw[Ame]at h;rw[<-h,Amj];simp only[Ams,Aot]
 ·rw[hc];exact Int.mul_neg_of_neg_of_pos h hpl
 ·rw[hc];exact Int.mul_pos h hpl
theorem Yl {f:Format}{v:Int}{m e:Nat}(hv:v.natAbs=m*2^e)(hm:m<2*f.binade)(he:f.fractionBits<=e)(hmax:(e+2)*f.binade<=f.infRung):Pa f v:=by
 have hbp:=Cw f
 by_cases h0:m=0
 ·refine⟨0,?_,?_⟩
  ·have:0 <(e+2)*f.binade:=Nat.mul_pos (by omega) hbp
   omega
  ·rw[hv,h0];simp[rv,rm,re]
 ·have hl:=Nat.log2_self_le h0;have hu:m<2^(m.log2+1):=Apm
  have hlog:m.log2<=f.fractionBits:=by
   have:m.log2<f.fractionBits+1:=(Nat.log2_lt h0).2 (by rw[Ap9,An3];exact hm)
   omega
  obtain⟨k,hk⟩:∃k,m.log2+k=f.fractionBits:=⟨f.fractionBits-m.log2,by omega⟩
  have h1:f.binade<=m*2^k:=by
   unfold Format.binade;rw[<-hk,Amj];exact Am3 _ hl
  have h2:m*2^k<2*f.binade:=by
   unfold Format.binade
   calc m*2^k<2^(m.log2+1)*2^k:=Aoj hu (Am9 _)
    _=2*2^f.fractionBits:=by rw[<-hk,Ap9,Amj];simp only[An3,Aot]
  have hke:k<=e:=by omega
  refine⟨(e-k)*f.binade+m*2^k,?_,?_⟩
  ·have:(e-k)*f.binade<=e*f.binade:=Am3 _ (by omega)
   rw[Nat.add_mul]at hmax
   omega
  ·have hdiv:((e-k)*f.binade+m*2^k) / f.binade=e-k+1:=by
    rw[An3,Nat.mul_add_div hbp]
    have:m*2^k / f.binade=1:=by
     rw[Nat.div_eq_iff hbp];omega
    omega
   have hre:re f ((e-k)*f.binade+m*2^k)=e-k:=by unfold re;rw[hdiv];omega
   have hrm:rm f ((e-k)*f.binade+m*2^k)=m*2^k:=by unfold rm;rw[hre];omega
   unfold rv;rw[hre,hrm,hv,Ams,<-Amj]
   congr 2;omega
theorem Ga:single.leastPlace=-149:=by decide
theorem G7:double.leastPlace=-1074:=by decide
theorem Az:single.binade=8388608:=by decide
theorem Ai:double.binade=4503599627370496:=by decide
theorem Gw:single.infRung=255*single.binade:=by decide
theorem Bf:double.infRung=2047*double.binade:=by decide
theorem Zc {k:FloatKind}{x:Nat}{v:Int}(h:Cf k.format x v):(k.decode x).isNaN=false:=by
 unfold FloatKind.decode;rw[Ak h.fin];rfl
theorem Zb {k:FloatKind}{x:Nat}{v:Int}(h:Cf k.format x v):(k.decode x).isInfinity=false:=by
 unfold FloatKind.decode;rw[Ak h.fin];rfl
theorem I4 {f:Format}{x y:Nat}{a b:Int}(hx:Cf f x a)(hy:Cf f y b):f.order x y=some (compare a b):=by
 rw[A8e hx.fin hy.fin,hx.iv,hy.iv]
theorem C9 {f:Format}{x:Nat}{v:Int}(h:Cf f x v):v.natAbs=rm f (A8 f x)*2^re f (A8 f x):=by
 rw[<-h.iv];unfold Flo.iv rv;exact natAbs_sign _ _
theorem A1t {f:Format}{r e:Nat}(h:r<f.infRung)(he:f.infRung=(e+1)*f.binade):re f r<e+1:=by
 have hbp:=Cw f;have:r / f.binade<e+1:=(Nat.div_lt_iff_lt_mul hbp).2 (by rw[<-he];exact h)
 unfold re;omega
def Gg:Nat:=925
theorem P8:Gg=925:=rfl
theorem Di {x:Nat}{a:Int}(h:Cf single x a):∃y,floatToFloatBits .f32 x .f64=some y/\Cf double y (a *(2^Gg:Nat)):=by
 have hd:=C9 h;have hr:=A1t (e:=254) h.fin (by decide)
 have hm:=Nq single (A8 single x);have hb:=Az;have hw:=P8
 have hrep:Pa double (a *(2^Gg:Nat)):=by
  refine Yl (m:=rm single (A8 single x)) (e:=re single (A8 single x)+Gg) ?_ ?_ ?_ ?_
  ·rw[Amq,Ame,hd,Ams,<-Amj]
  ·rw[Ai];omega
  ·show 52<=_;omega
  ·rw[Bf];exact Am3 _ (by omega)
 have hs:∀{v:Int},v=a *(2^Gg:Nat) ->(v<0->Gv single x=true) /\(0<v->Gv single x=false):=by
  intro v hv;have hiv:=h.iv;unfold Flo.iv at hiv;have hp:(0:Int) <(2^Gg:Nat):=Int.ofNat_lt.2 (Am9 Gg);subst hv
  constructor
  ·intro hneg
   cases hsg:Gv single x
   ·exfalso
    rw[hsg]at hiv;simp only[Amk,Ao5]at hiv;have:=Anl (show(0:Int)<=a by omega) (Apb hp)
    exact absurd hneg (Int.not_lt.2 this)
   ·rfl
  ·intro hpos
   cases hsg:Gv single x
   ·rfl
   ·exfalso
    rw[hsg]at hiv;simp only[Apg]at hiv;have:=Int.mul_nonpos_of_nonpos_of_nonneg (show a<=0 by omega) (Apb hp)
    exact absurd hpos (Int.not_lt.2 this)
 have hv:=Ei (f:=double) (s:=Gv single x) (mag:=rm single (A8 single x)) (place:=single.leastPlace+re single (A8 single x)) (a:=re single (A8 single x)+Gg) (b:=0) hrep
  (by rw[Ga,G7];omega) (by rw[Amq,Ame,hd,Amj];simp only[Ams,Apr,Aqm]) (hs rfl).1 (hs rfl).2
 refine⟨_,?_,hv⟩
 unfold floatToFloatBits;rw[Amd (by decide)]
 have hdec:FloatKind.decode .f32 x=.number (Gv single x) (rm single (A8 single x)) (single.leastPlace+re single (A8 single x)):=Ak h.fin;rw[hdec];have hni:(FloatKind.decode .f64 (FloatKind.encode .f64 (.number (Gv single x) (rm single (A8 single x)) (single.leastPlace+re single (A8 single x))))).isInfinity=false:=Zb (k:=.f64) hv;simp only[hni]
 rfl
end Flo
end Go.Proofs.YtjaehldnlamgkaaGreatDoor
end
namespace Go.Proofs.YtjaehldnlamgkaaGreatDoor
end Go.Proofs.YtjaehldnlamgkaaGreatDoor
section
namespace Go.Proofs.YtjaehldnlamgkaaGreatDoor
namespace Flo
def nan (k:FloatKind)(x:Nat):Bool:=(k.decode x).isNaN
theorem Gt {k:FloatKind}{x:Nat}(y:Nat)(h:nan k x=true):k.format.order x y=none:=by
 unfold nan FloatKind.decode at h;unfold Ieee.Format.order
 cases hx:k.format.read x<;>simp_all [Ieee.Datum.isNaN,Ieee.Datum.order]
theorem Jd {k:FloatKind}{y:Nat}(x:Nat)(h:nan k y=true):k.format.order x y=none:=by
 unfold nan FloatKind.decode at h;unfold Ieee.Format.order
 cases hy:k.format.read y<;>simp_all [Ieee.Datum.isNaN]
 cases k.format.read x<;>simp[Ieee.Datum.order]
theorem Mi {k:FloatKind}{x:Nat}(h:nan k x=false):k.format.order x x=some .eq:=by
 unfold nan FloatKind.decode at h;unfold Ieee.Format.order
 cases hx:k.format.read x<;>simp_all [Ieee.Datum.isNaN,Ieee.Datum.order]
def Ali (k:FloatKind)(x:Nat)(w:World):Nat:=(Question.nanConv k x).cut (w.tape w.drawn (Question.nanConv k x))
theorem Wp (t:Nat):nan .f32 ((t % 2)*2^31+0x7f800000+1 +(t / 2) % (2^23-1))=true:=by
 unfold nan FloatKind.decode;have h1:t % 2<2:=Aps _ (by omega)
 have h2:(t / 2) % (2^23-1)<8388607:=Aps _ (by omega)
 generalize t % 2=a at *;generalize (t / 2) % (2^23-1)=b at *
 show(Ieee.single.read _).isNaN=true
 unfold Ieee.Format.read;have hs:Ieee.single.signWeight=2147483648:=by decide
 have hb:Ieee.single.binade=8388608:=by decide
 have hi:Ieee.single.infRung=2139095040:=by decide
 simp only[hs,hb,hi];have hm:(a*2^31+2139095040+1+b) % 2147483648=2139095041+b:=by omega
 rw[hm];rw[Amd (by omega),Amd (by omega),Amd (by omega)]
 rfl
theorem Wq (t:Nat):nan .f64 ((t % 2)*2^63+0x7ff0000000000000+1 +(t / 2) % (2^52-1))=true:=by
 unfold nan FloatKind.decode;have h1:t % 2<2:=Aps _ (by omega)
 have h2:(t / 2) % (2^52-1)<2^52-1:=Aps _ (by omega)
 generalize t % 2=a at *;generalize (t / 2) % (2^52-1)=b at *
 show(Ieee.double.read _).isNaN=true
 unfold Ieee.Format.read;have hs:Ieee.double.signWeight=9223372036854775808:=by decide
 have hb:Ieee.double.binade=4503599627370496:=by decide
 have hi:Ieee.double.infRung=9218868437227405312:=by decide
 simp only[hs,hb,hi];have hm:(a*2^63+9218868437227405312+1+b) % 9223372036854775808=9218868437227405313+b:=by omega
 rw[hm];rw[Amd (by omega),Amd (by omega),Amd (by omega)]
 rfl
theorem Abh (k:FloatKind)(x:Nat)(w:World):nan k (Ali k x w)=true:=by
 cases k
 ·exact Wp _
 ·exact Wq _
theorem Akb:∃s m e,FloatKind.f64.format.read 4607182418800017408=.number s (m+1) e:=⟨false,4503599627370495,-52,by decide⟩
theorem kinds (f:Ieee.Format)(he:1<=f.exponentBits)(x:Nat):fin f x \/(∃s,f.read x=.infinity s) \/(∃s t,f.read x=.nan s t):=by
 by_cases h:fin f x
 ·exact .inl h
 ·right
  unfold fin A8 at h;unfold Ieee.Format.read;simp only
  have hb:f.binade<=f.infRung:=by
   unfold Ieee.Format.infRung;have:2^1<=2^f.exponentBits:=Amn (by omega) he
   exact Nat.le_mul_of_pos_left _ (by omega)
  rw[Amd (by omega),Amd h]
  split
  ·exact .inl ⟨_,rfl⟩
  ·exact .inr ⟨_,_,rfl⟩
theorem A9n {x:Nat}(hx:x<2^32)(h:nan .f32 x=false):∃y,floatToFloatBits .f32 x .f64=some y/\nan .f64 y=false:=by
 rcases kinds Ieee.single (by decide) x with hf |⟨s,hi⟩ |⟨s,t,hn⟩
 ·obtain⟨y,hy,hv⟩:=Di ⟨hx,hf,rfl⟩
  exact⟨y,hy,Zc (k:=.f64) hv⟩
 ·refine⟨FloatKind.encode .f64 (.infinity s),?_,?_⟩
  ·unfold floatToFloatBits;rw[Amd (by decide)]
   have:FloatKind.decode .f32 x=.infinity s:=hi;rw[this]
  ·cases s<;>decide
 ·exfalso
  unfold nan FloatKind.decode at h;have:FloatKind.format .f32=Ieee.single:=rfl;rw[this,hn]at h
  cases h
end Flo
end Go.Proofs.YtjaehldnlamgkaaGreatDoor
end
namespace Go.Proofs.YtjaehldnlamgkaaGreatDoor
namespace Flo
open Go.RowKit
theorem A1r:(2:Nat)^32=4294967296:=by decide
theorem A08 (x y t:Nat):(Question.nanBits .f32 x y).cut t<2^32:=by
 show(t % 2)*2^31+0x7f800000+1 +(t / 2) % (2^23-1)<2^32
 omega
theorem A09 (x y t:Nat):(Question.nanBits .f64 x y).cut t<2^64:=by
 show(t % 2)*2^63+0x7ff0000000000000+1 +(t / 2) % (2^52-1)<2^64
 omega
theorem A3m (x t:Nat):(Question.nanConv .f32 x).cut t<2^32:=by
 show(t % 2)*2^31+0x7f800000+1 +(t / 2) % (2^23-1)<2^32
 omega
theorem Ze:FloatKind.f32.format.width=32:=rfl
theorem Zf:FloatKind.f64.format.width=64:=rfl
theorem A72 {P:Program}(op:BinOp)(hop:op=.add\/op=.sub\/op=.mul\/op=.quo)(t:TypeId)(k:FloatKind)(x y:Nat)(w:World) :
 ∃z w',(binOp op t (.float k x) (.float k y)).run P w=.ok (.float k z) w'/\z<2^k.format.width/\Bp w w':=by
 cases h:floatBits op k x y with
 | some r =>
   refine⟨r,w,Amz w op t k x y r h,?_,Bp.refl w⟩
   have:=floatBits_wf h
   cases k<;>simpa [Lit.wf,Ze,Zf]using this
 | none =>
   refine⟨(Question.nanBits k x y).cut (w.tape w.drawn (Question.nanBits k x y)),w.drew,?_,?_,(Bp.refl w).drew⟩
   ·unfold floatBits at h
    rcases hop with rfl|rfl|rfl|rfl<;>simp only at h<;>simp[binOp,Op.floatArith,h]<;>(intro hf;simp[Question.forced]at hf)
   ·cases k
    ·exact A08 _ _ _
    ·exact A09 _ _ _
theorem Qi (f:Ieee.Format)(s:Bool)(r:Nat)(h:r<=f.infRung):(f.read (f.word s r)).isNaN=false:=by
 have hr:f.word s r % f.signWeight=r:=Oy f s r (Nat.lt_of_le_of_lt h (Ieee.Format.infRung_lt f));unfold Ieee.Format.read;simp only[hr]
 split
 ·rfl
 ·split
  ·rfl
  ·rw[Amo (by omega)];rfl
theorem K3 (f:Ieee.Format)(s:Bool)(m:Nat)(p:Int):(f.read (f.nearest s m p)).isNaN=false:=by
 rw[Cl];exact Qi f s _ (Tn f s m p)
theorem Ti {k:FloatKind}{x one:Nat}(hone:∃s m e,k.format.read one=.number s (m+1) e)(h:nan k x=false):∃r,floatBits .quo k one x=some r/\nan k r=false:=by
 obtain⟨s,m,e,h1⟩:=hone;unfold nan FloatKind.decode at h ⊢;simp only[floatBits,Ieee.Format.div,h1]
 cases hx:k.format.read x with
 | nan _ _=>rw[hx]at h;cases h
 | infinity t=>exact⟨_,rfl,K3 _ _ _ _⟩
 | number t n j =>
   cases n with
   | zero=>exact⟨_,rfl,Qi _ _ _ (Am0 _)⟩
   | succ n=>exact⟨_,rfl,K3 _ _ _ _⟩
end Flo
end Go.Proofs.YtjaehldnlamgkaaGreatDoor
section
namespace Go.Proofs.YtjaehldnlamgkaaGreatDoor
namespace Flo
open Ieee
theorem He {f:Format}{v:Int}{m e:Nat}(hv:v.natAbs=m*2^e)(hm:m<2*f.binade)(hmax:(e+2)*f.binade<=f.infRung):Pa f v:=by
 have hbp:=Cw f;have h2:2*f.binade <=(e+2)*f.binade:=Am3 _ (by omega)
 by_cases hs:m*2^e<2*f.binade
 ·refine⟨m*2^e,?_,?_⟩
  ·rcases Ani e with h|h
   ·subst h;omega
   ·have:3*f.binade <=(e+2)*f.binade:=Am3 _ (by omega)
    omega
  ·rw[hv];have hq:m*2^e / f.binade<2:=Nat.div_lt_of_lt_mul (by omega)
   unfold rv rm re;have:m*2^e / f.binade-1=0:=by omega
   rw[this];simp
 ·have h0:m≠0:=by intro h;subst h;simp at hs;omega
  have hl:=Nat.log2_self_le h0;have hu:m<2^(m.log2+1):=Apm
  have hlog:m.log2<=f.fractionBits:=by
   have:m.log2<f.fractionBits+1:=(Nat.log2_lt h0).2 (by rw[Ap9,An3];exact hm)
   omega
  obtain⟨k,hk⟩:∃k,m.log2+k=f.fractionBits:=⟨f.fractionBits-m.log2,by omega⟩
  have h1:f.binade<=m*2^k:=by
   unfold Format.binade;rw[<-hk,Amj];exact Am3 _ hl
  have h3:m*2^k<2*f.binade:=by
   unfold Format.binade
   calc m*2^k<2^(m.log2+1)*2^k:=Aoj hu (Am9 _)
    _=2*2^f.fractionBits:=by rw[<-hk,Ap9,Amj];simp only[An3,Aot]
  have hke:k<=e:=by
   rcases Nat.le_total k e with h|h
   ·exact h
   ·exfalso
    have:m*2^e<=m*2^k:=Ar1 _ (Amn (by omega) h)
    omega
  refine⟨(e-k)*f.binade+m*2^k,?_,?_⟩
  ·have:(e-k)*f.binade<=e*f.binade:=Am3 _ (by omega)
   rw[Nat.add_mul]at hmax
   omega
  ·have hdiv:((e-k)*f.binade+m*2^k) / f.binade=e-k+1:=by
    rw[An3,Nat.mul_add_div hbp]
    have:m*2^k / f.binade=1:=by
     rw[Nat.div_eq_iff hbp];omega
    omega
   have hre:re f ((e-k)*f.binade+m*2^k)=e-k:=by unfold re;rw[hdiv];omega
   have hrm:rm f ((e-k)*f.binade+m*2^k)=m*2^k:=by unfold rm;rw[hre];omega
   unfold rv;rw[hre,hrm,hv,Ams,<-Amj]
   congr 2;omega
theorem A0a (neg:Bool)(n drop:Nat):Toward.zero.cut neg n drop=n / 2^drop:=by
 unfold Toward.cut;simp only[Bool.toNat_false,Nat.add_zero]
 by_cases hd:drop<=n.log2+2
 ·rw[Nat.min_eq_left hd,Aq0]
 ·have hd':n.log2+2<=drop:=by omega
  have hlt:n<2^(n.log2+1):=Apm;have h2:2^(n.log2+1)<=2^(n.log2+2):=Amn (by omega) (by omega)
  have h3:2^(n.log2+2)<=2^drop:=Amn (by omega) hd'
  rw[Nat.min_eq_right hd',Aq0,Aq6 (by omega),Aq6 (by omega)]
theorem Xb {f:Format}{l:Nat}(hl:f.leastPlace=-(l:Int)){x:Nat}{v:Int}(h:Cf f x v):(f.read x).toInt .zero=some (v.tdiv (2^l:Nat)):=by
 have hd:=C9 h;have hiv:=h.iv;unfold Flo.iv rv at hiv;rw[Ak h.fin];generalize re f (A8 f x)=e at *;generalize rm f (A8 f x)=m at *;generalize Gv f x=s at *;unfold Datum.toInt Datum.integral;simp only[Anf];rw[A0a,hl]
 have key:(m <<<(-(l:Int)+e).toNat) / 2^(-(-(l:Int)+e)).toNat=m*2^e / 2^l:=by
  rw[Ap3]
  rcases Nat.le_total l e with h|h
  ·obtain⟨k,rfl⟩:∃k,e=l+k:=⟨e-l,by omega⟩
   have e1:(-(l:Int) +((l+k:Nat):Int)).toNat=k:=by omega
   have e2:(-(-(l:Int) +((l+k:Nat):Int))).toNat=0:=by omega
   rw[e1,e2,Apr,Nat.div_one,Amj,<-Ams,Aoo,Nat.mul_div_cancel _ (Am9 l)]
  ·obtain⟨k,rfl⟩:∃k,l=e+k:=⟨l-e,by omega⟩
   have e1:(-((e+k:Nat):Int) +(e:Int)).toNat=0:=by omega
   have e2:(-(-((e+k:Nat):Int) +(e:Int))).toNat=k:=by omega
   rw[e1,e2,Apr,Aqm,Amj,An3 m,Nat.mul_div_mul_left _ _ (Am9 e)]
 rw[key];unfold signed;rw[Nat.shiftLeft_zero]
 cases s
 ·simp only[Amk,Ao5]at hiv ⊢;rw[<-hiv,Anx (by omega)]
  exact(Int.natCast_ediv _ _)
 ·simp only[Apg]at hiv ⊢;rw[<-hiv,Int.neg_tdiv,Anx (by omega)]
  exact congrArg Neg.neg (Int.natCast_ediv _ _)
theorem De {k:FloatKind}{l:Nat}(hl:k.format.leastPlace=-(l:Int))(n:Int)(hn:n.natAbs<2*k.format.binade)(hmax:(l+2)*k.format.binade<=k.format.infRung):Cf k.format (floatOfInt k n) (n *(2^l:Nat)):=by
 have hp:(0:Int) <(2^l:Nat):=by have:=Am9 l;omega
 have hab:(n *(2^l:Nat)).natAbs=n.natAbs*2^l:=by rw[Amq,Ame]
 refine Ei (a:=l) (b:=0) (He (m:=n.natAbs) (e:=l) hab hn hmax) (by rw[hl];omega) (by rw[hab];simp) ?_ ?_
 ·intro h
  rcases Aoz n 0 with h1|h1
  ·simp[h1]
  ·have:=Anl h1 (Apb hp);omega
 ·intro h
  rcases Aoz n 0 with h1|h1
  ·have:=Int.mul_neg_of_neg_of_pos h1 hp;omega
  ·simp;omega
theorem D6 {k:FloatKind}{x y:Nat}{a b:Int}(hx:Cf k.format x a)(hy:Cf k.format y b):(k.format.order x y == some .eq)=decide (a=b):=by
 rw[I4 hx hy]
 rcases Ape a b with h|h|h
 ·rw[Aq2.2 h];simp;omega
 ·rw[Aqk.2 h];simp[h]
 ·rw[Aq3.2 h];simp;omega
theorem G9 {k:FloatKind}{x y:Nat}{a b:Int}(hx:Cf k.format x a)(hy:Cf k.format y b):(k.format.order x y == some .lt)=decide (a<b):=by
 rw[I4 hx hy]
 rcases Ape a b with h|h|h
 ·rw[Aq2.2 h];simp[h]
 ·rw[Aqk.2 h];simp;omega
 ·rw[Aq3.2 h];simp;omega
theorem Ip {k:FloatKind}{x y:Nat}{a b:Int}(hx:Cf k.format x a)(hy:Cf k.format y b):(k.format.order x y == some .gt)=decide (b<a):=by
 rw[I4 hx hy]
 rcases Ape a b with h|h|h
 ·rw[Aq2.2 h];simp;omega
 ·rw[Aqk.2 h];simp;omega
 ·rw[Aq3.2 h];simp[h]
theorem A0m {f:Format}(he:1<=f.exponentBits){x p q:Nat}{a b:Int}(hx:x<2^f.width)(hp:Cf f p a)(hq:Cf f q b)(h1:(f.order x p == some .gt || f.order x p == some .eq)=true)(h2:(f.order x q == some .lt || f.order x q == some .eq)=true) :
 Cf f x (iv f x)/\a<=iv f x/\iv f x<=b:=by
 rcases kinds f he x with hf |⟨s,hi⟩ |⟨s,t,hn⟩
 ·have hv:Cf f x (iv f x):=⟨hx,hf,rfl⟩
  refine⟨hv,?_,?_⟩
  ·rw[I4 hv hp]at h1
   rcases Ape (iv f x) a with h|h|h
   ·rw[Aq2.2 h]at h1;simp at h1
   ·omega
   ·omega
  ·rw[I4 hv hq]at h2
   rcases Ape (iv f x) b with h|h|h
   ·omega
   ·omega
   ·rw[Aq3.2 h]at h2;simp at h2
 ·exfalso
  unfold Format.order at h1 h2;rw[hi,Ak hp.fin]at h1;rw[hi,Ak hq.fin]at h2
  cases s
  ·simp[Datum.order]at h2
  ·simp[Datum.order]at h1
 ·exfalso
  unfold Format.order at h1;rw[hn,Ak hp.fin]at h1;simp[Datum.order]at h1
def u32:Nat:=149
theorem G0:u32=149:=rfl
def u64:Nat:=1074
theorem G1:u64=1074:=rfl
theorem Kp:single.leastPlace=-(u32:Int):=by rw[G0];exact Ga
theorem Cj:double.leastPlace=-(u64:Int):=by rw[G1];exact G7
theorem Aat:Cf single 1082130432 (4 *(2^u32:Nat)):=by
 refine⟨by decide,by unfold fin;decide,?_⟩
 rw[G0];unfold iv;have h1:Gv single 1082130432=false:=by decide
 have h2:rv single (A8 single 1082130432)=4*2^149:=by decide +kernel
 rw[h1,h2];simp
theorem Gq:Cf single 3229614080 (-(4 *(2^u32:Nat))):=by
 refine⟨by decide,by unfold fin;decide,?_⟩
 rw[G0];unfold iv;have h1:Gv single 3229614080=true:=by decide
 have h2:rv single (A8 single 3229614080)=4*2^149:=by decide +kernel
 rw[h1,h2];simp
def Ep (x:Nat):Bool:=(FloatKind.f32.format.order x 3229614080 == some .gt || FloatKind.f32.format.order x 3229614080 == some .eq) && (FloatKind.f32.format.order x 1082130432 == some .lt || FloatKind.f32.format.order x 1082130432 == some .eq)
def Bw (x d:Nat):Bool:=Ep x && decide (iv single x *(2^d:Nat) % (2^u32:Nat)=0)
theorem Ij {x:Nat}(hx:x<4294967296)(h:Ep x=true):Cf single x (iv single x) /\(iv single x).natAbs<=4*2^u32:=by
 unfold Ep at h;rw[Am8]at h;obtain⟨hv,h1,h2⟩:=A0m (f:=single) (by decide) hx Gq Aat h.1 h.2
 refine⟨hv,?_⟩
 generalize (2:Nat)^u32=U at *
 omega
theorem A32 {x d:Nat}(hx:x<4294967296)(hd:d<=11)(h:Ep x=true) :
 ∃(y:Nat) (n:Int),floatBits .mul .f32 x (floatOfInt .f32 ((2^d:Nat):Int))=some y/\floatToIntVal .f32 y .i64=some n/\n=(iv single x *(2^d:Nat)).tdiv (2^u32:Nat)/\Cf single y (iv single x *(2^d:Nat)) /\
  (FloatKind.f32.format.order (floatOfInt .f32 n) y == some .eq)=decide (iv single x *(2^d:Nat) % (2^u32:Nat)=0):=by
 obtain⟨hv,hb⟩:=Ij hx h;have hdp:2^d<=2^11:=Amn (by omega) hd
 have hD:Cf single (floatOfInt .f32 ((2^d:Nat):Int)) (((2^d:Nat):Int) *(2^u32:Nat)):=De (k:=.f32) Kp _ (by rw[Ame];show _<2*single.binade;rw[Az];omega) (by show(u32+2)*single.binade<=single.infRung;rw[Gw,G0];exact Am3 _ (by omega))
 have hdg:=C9 hv;have hr:=A1t (e:=254) hv.fin (by decide)
 have hm:=Nq single (A8 single x)
 have hrep:Pa single (iv single x *(2^d:Nat)):=by
  by_cases hz:re single (A8 single x)+d+2<=255
  ·refine He (m:=rm single (A8 single x)) (e:=re single (A8 single x)+d) ?_ hm ?_
   ·rw[Amq,Ame,hdg,Ams,<-Amj]
   ·rw[Gw];exact Am3 _ hz
  ·exfalso
   have hge:=Ww single (A8 single x) (by omega)
   rw[Az]at hge;have h1:8388608*2^re single (A8 single x)<=rm single (A8 single x)*2^re single (A8 single x):=Am3 _ hge;have h2:2^(u32+3)<=2^re single (A8 single x):=Amn (by omega) (by rw[G0];omega)
   have h3:2^(u32+3)=8*2^u32:=by rw[Amj,An3]
   have h4:=Am9 u32;rw[hdg]at hb
   omega
 obtain⟨y,hy,hyv⟩:=Hb (f:=single) (c:=iv single x *(2^d:Nat)) Kp hv hD (by rw[Ano]) hrep
 have hti:=Xb (f:=single) Kp hyv;generalize hA:iv single x *((2^d:Nat):Int)=A at *
 have hAb:A.natAbs<=8192*2^u32:=by
  rw[<-hA,Amq,Ame]
  calc (iv single x).natAbs*2^d <=(4*2^u32)*2^11:=Ap4 hb hdp
   _=8192*2^u32:=by rw[Aoo]
 have hU:=Am9 u32
 have hna:(A.tdiv (2^u32:Nat)).natAbs<=8192:=by
  rw[Int.natAbs_tdiv,Ame]
  exact Nat.div_le_of_le_mul (by rw[An3];exact hAb)
 have hN:Cf single (floatOfInt .f32 (A.tdiv (2^u32:Nat))) (A.tdiv (2^u32:Nat) *(2^u32:Nat)):=De (k:=.f32) Kp _ (by show _<2*single.binade;rw[Az];omega) (by show(u32+2)*single.binade<=single.infRung;rw[Gw,G0];exact Am3 _ (by omega))
 refine⟨y,A.tdiv (2^u32:Nat),hy,?_,rfl,hyv,?_⟩
 ·unfold floatToIntVal;have:(FloatKind.f32.decode y).toInt .zero=some (A.tdiv (2^u32:Nat)):=hti;rw[this];simp only;rw[Amo];have h1:IntKind.i64.min=-9223372036854775808:=by decide
  have h2:IntKind.i64.max=9223372036854775807:=by decide
  rw[h1,h2]
  omega
 ·rw[D6 (k:=.f32) hN hyv]
  congr 1
  have hmod:=Int.mul_tdiv_add_tmod A (2^u32:Nat);rw[Ao8]at hmod;rw[eq_iff_iff]
  constructor
  ·intro h
   exact Int.emod_eq_zero_of_dvd ⟨_,by rw[Ao8];exact h.symm⟩
  ·intro h
   exact Int.tdiv_mul_cancel (Int.dvd_of_emod_eq_zero h)
end Flo
end Go.Proofs.YtjaehldnlamgkaaGreatDoor
end
namespace Go.Proofs.YtjaehldnlamgkaaGreatDoor
end Go.Proofs.YtjaehldnlamgkaaGreatDoor
section
namespace Go.Proofs.YtjaehldnlamgkaaGreatDoor
namespace Flo
open Ieee
def Ea (d:Nat):Nat:=(127-d)*8388608
def Pt (x d:Nat)(n:Int):Prop:=Cf single x (n *(2^(u32-d):Nat))
theorem Ou {d:Nat}(hd:d<=11):2^u32=2^(u32-d)*2^d:=by
 rw[<-Amj];congr 1;rw[G0];omega
theorem Ac3 (d:Nat)(hd:d<=11):Pt (Ea d) d 1:=by
 unfold Pt;rw[Int.one_mul]
 rcases(by omega:d=0\/d=1\/d=2\/d=3\/d=4\/d=5\/d=6\/d=7\/d=8\/d=9\/d=10\/d=11)with rfl|rfl|rfl|rfl|rfl|rfl|rfl|rfl|rfl|rfl|rfl|rfl
 all_goals
  refine⟨by decide,by unfold fin;decide,?_⟩
  unfold iv u32;rw[Amd (by decide)]
  congr 1
theorem Ud {x d:Nat}(hx:x<4294967296)(hd:d<=11)(h:Bw x d=true):∃A:Int,Pt x d A/\A.natAbs<=4*2^d:=by
 unfold Bw at h;rw[Am8,Amt]at h;obtain⟨hv,hb⟩:=Ij hx h.1;have hs:=Ou hd;have hp:(0:Int) <(2^d:Nat):=by have:=Am9 d;omega
 obtain⟨A,hA⟩:=Int.dvd_of_emod_eq_zero h.2
 have hA2:iv single x=A *(2^(u32-d):Nat):=by
  refine Int.eq_of_mul_eq_mul_right (Int.ne_of_gt hp) ?_
  rw[hA,hs,An2,Ano A,Ao8 A]
 refine⟨A,?_,?_⟩
 ·unfold Pt;rw[<-hA2];exact hv
 ·rw[hA2,Amq,Ame,hs]at hb;have:4 *(2^(u32-d)*2^d)=4*2^d*2^(u32-d):=by rw[Ams,An3 (2^(u32-d))]
  rw[this]at hb
  exact Anw hb (Am9 _)
theorem Abq {d:Nat}(hd:d<=11){n:Int}(hn:n.natAbs<16777216):Pa single (n *(2^(u32-d):Nat)):=by
 refine He (m:=n.natAbs) (e:=u32-d) (by rw[Amq,Ame]) (by rw[Az];omega) ?_
 rw[Gw,G0]
 exact Am3 _ (by omega)
theorem Ac4 (d:Nat)(hd:d<=11)(j:Int)(hj:j.natAbs<=65536):∃p,floatBits .mul .f32 (floatOfInt .f32 j) (Ea d)=some p/\Pt p d j:=by
 have hJ:Cf single (floatOfInt .f32 j) (j *(2^u32:Nat)):=De (k:=.f32) Kp _ (by show _<2*single.binade;rw[Az];omega) (by show(u32+2)*single.binade<=single.infRung;rw[Gw,G0];exact Am3 _ (by omega))
 obtain⟨p,hp,hv⟩:=Hb (f:=single) (c:=j *(2^(u32-d):Nat)) Kp hJ (Ac3 d hd) (by rw[Int.one_mul,Int.mul_right_comm]) (Abq hd (by omega))
 exact⟨p,hp,hv⟩
theorem Aie {d x y:Nat}{a b:Int}(hd:d<=11)(hx:Pt x d a)(hy:Pt y d b)(h:(a+b).natAbs<16777216):∃z,floatBits .add .f32 x y=some z/\Pt z d (a+b):=by
 have hr:=Abq hd h;rw[Apc]at hr;obtain⟨z,hz,hv⟩:=Adh hx hy hr
 refine⟨z,hz,?_⟩
 unfold Pt;rw[Apc]
 exact hv
theorem Abo {c d:Nat}{A:Int}(hd:d<=11)(hc:Pt c d A)(hA:A.natAbs<=65536)(j:Int)(hj:j.natAbs<=65536) :
 ∃p x,floatBits .mul .f32 (floatOfInt .f32 j) (Ea d)=some p/\floatBits .add .f32 c p=some x/\Pt x d (A+j):=by
 obtain⟨p,hp,hv⟩:=Ac4 d hd j hj;obtain⟨x,hx,hv2⟩:=Aie hd hc hv (by omega)
 exact⟨p,x,hp,hx,hv2⟩
theorem Nz {x d:Nat}{n:Int}(hd:d<=11)(hx:Pt x d n)(hn:n.natAbs<=65536) :
 ∃y1 y,floatToFloatBits .f32 x .f64=some y1/\floatBits .mul .f64 y1 4715268809856909312=some y/\Cf double y (n *(2^(24-d):Nat) *(2^u64:Nat))/\floatToIntVal .f64 y .i64=some (n *(2^(24-d):Nat)):=by
 obtain⟨y1,h1,v1⟩:=Di hx
 have hU:Cf double 4715268809856909312 ((16777216:Int) *(2^u64:Nat)):=by
  have:=De (k:=.f64) Cj 16777216 (by show _<2*double.binade;rw[Ai];omega) (by show(u64+2)*double.binade<=double.infRung;rw[Bf,G1];exact Am3 _ (by omega))
  have e:floatOfInt .f64 16777216=4715268809856909312:=by kernel_rfl
  rw[e]at this
  exact this
 have hpd:2^(24-d)<=2^24:=Amn (by omega) (by omega)
 have hN:(n *(2^(24-d):Nat)).natAbs<=65536*16777216:=by
  rw[Amq,Ame]
  exact Ap4 hn (by omega)
 have hrep:Pa double (n *(2^(24-d):Nat) *(2^u64:Nat)):=by
  refine He (m:=(n *(2^(24-d):Nat)).natAbs) (e:=u64) (by rw[Amq,Ame]) (by rw[Ai];omega) ?_
  rw[Bf,G1]
  exact Am3 _ (by omega)
 have hc:n *(2^(u32-d):Nat) *(2^Gg:Nat) *((16777216:Int) *(2^u64:Nat))=n *(2^(24-d):Nat) *(2^u64:Nat) *(2^u64:Nat):=by
  have e:(2^(u32-d)*2^Gg*16777216:Nat)=2^(24-d)*2^u64:=by
   rw[show(16777216:Nat)=2^24 by decide,<-Amj,<-Amj,<-Amj]
   congr 1
   rw[G0,P8,G1];omega
  have e2:((2^(u32-d):Nat):Int) *(2^Gg:Nat)*16777216=(2^(24-d):Nat) *(2^u64:Nat):=by
   have:=congrArg (fun x:Nat=>(x:Int)) e
   simp only[An2]at this
   exact this
  generalize ((2^(u32-d):Nat):Int)=P at *;generalize ((2^Gg:Nat):Int)=Q at *;generalize ((2^u64:Nat):Int)=R at *;generalize ((2^(24-d):Nat):Int)=S at *
  calc n*P*Q *(16777216*R)=n *(P*Q*16777216)*R:=by simp only[Ano]
   _=n*S*R*R:=by rw[e2];simp only[Ano]
 obtain⟨y,hy,v2⟩:=Hb (f:=double) (c:=n *(2^(24-d):Nat) *(2^u64:Nat)) Cj v1 hU hc hrep
 refine⟨y1,y,h1,hy,v2,?_⟩
 have hti:=Xb (f:=double) Cj v2;have hp:((2^u64:Nat):Int)≠0:=by have:=Am9 u64;omega
 rw[Int.mul_tdiv_cancel _ hp]at hti;unfold floatToIntVal;have:(FloatKind.f64.decode y).toInt .zero=some (n *(2^(24-d):Nat)):=hti;rw[this];simp only;rw[Amo];have h1:IntKind.i64.min=-9223372036854775808:=by decide
 have h2:IntKind.i64.max=9223372036854775807:=by decide
 rw[h1,h2]
 omega
theorem A0f:Cf double 4728779608739020800 ((134217728:Int) *(2^u64:Nat)):=by
 have:=De (k:=.f64) Cj 134217728 (by show _<2*double.binade;rw[Ai];omega) (by show(u64+2)*double.binade<=double.infRung;rw[Bf,G1];exact Am3 _ (by omega))
 have e:floatOfInt .f64 134217728=4728779608739020800:=by kernel_rfl
 rw[e]at this
 exact this
theorem K2:Cf double 13952151645593796608 ((-134217728:Int) *(2^u64:Nat)):=by
 have:=De (k:=.f64) Cj (-134217728) (by show _<2*double.binade;rw[Ai];omega) (by show(u64+2)*double.binade<=double.infRung;rw[Bf,G1];exact Am3 _ (by omega))
 have e:floatOfInt .f64 (-134217728)=13952151645593796608:=by kernel_rfl
 rw[e]at this
 exact this
theorem Sz {a b:Int}:(a *(2^u64:Nat)<=b *(2^u64:Nat))↔a<=b:=by
 have hp:(0:Int) <(2^u64:Nat):=by have:=Am9 u64;omega
 exact⟨fun h=>Int.le_of_mul_le_mul_right h hp,fun h=>Aoy h (Apb hp)⟩
theorem Qf {y:Nat}{N:Int}(hN:N.natAbs<=1099511627776)(hy:Cf double y (N *(2^u64:Nat))) :
 (FloatKind.f64.format.order y 13952151645593796608 == some .gt || FloatKind.f64.format.order y 13952151645593796608 == some .eq)=decide (-134217728<=N) /\
 (FloatKind.f64.format.order y 4728779608739020800 == some .lt || FloatKind.f64.format.order y 4728779608739020800 == some .eq)=decide (N<=134217728) /\
 (FloatKind.f64.format.order (floatOfInt .f64 N) y == some .gt)=false /\(FloatKind.f64.format.order (floatOfInt .f64 N) y == some .lt)=false:=by
 have hNv:Cf double (floatOfInt .f64 N) (N *(2^u64:Nat)):=De (k:=.f64) Cj N (by show _<2*double.binade;rw[Ai];omega) (by show(u64+2)*double.binade<=double.infRung;rw[Bf,G1];exact Am3 _ (by omega))
 have m1:=@Sz (-134217728) N;have m2:=@Sz N 134217728
 refine⟨?_,?_,?_,?_⟩
 ·rw[Ip (k:=.f64) hy K2,D6 (k:=.f64) hy K2,Aqa];simp only[Ane,Amt];rw[<-m1];omega
 ·rw[G9 (k:=.f64) hy A0f,D6 (k:=.f64) hy A0f,Aqa];simp only[Ane,Amt];rw[<-m2];omega
 ·rw[Ip (k:=.f64) hNv hy];simp
 ·rw[G9 (k:=.f64) hNv hy];simp
end Flo
end Go.Proofs.YtjaehldnlamgkaaGreatDoor
end
namespace Go.Proofs.YtjaehldnlamgkaaGreatDoor
section
def H5 (n lo hi:Int):Bool:=decide (lo<=n) && decide (n<=hi)
theorem Ae6 {n lo hi:Int}(h1:lo<=n)(h2:n<=hi):H5 n lo hi=true:=by simp[H5,h1,h2]
theorem Ab3 {n lo hi:Int}(h:¬(lo<=n/\n<=hi)):H5 n lo hi=false:=by
 cases e:H5 n lo hi
 ·rfl
 ·simp only[H5,Am8,Amt]at e;exact absurd e h
end
section
open Go.RowKit
theorem Cr (n lo hi:Int)(w:World):Calls Vp.prog 67 #[.int .i64 n,.int .i64 lo,.int .i64 hi] w fun e w'=>e=.returned (.bool (H5 n lo hi))/\w=w':=by
 by_cases h1:lo<=n
 ·by_cases h2:n<=hi
  ·rw[Ae6 h1 h2];have h2':¬hi<n:=by omega
   go_enter Vp.func67,Tryz.ntmps67
   go_wp2
   go_ret
   exact⟨rfl,rfl⟩
  ·rw[Ab3 (by omega)]
   go_enter Vp.func67,Tryz.ntmps67
   go_wp2
   go_ret
   exact⟨rfl,rfl⟩
 ·rw[Ab3 (by omega)]
  go_enter Vp.func67,Tryz.ntmps67
  go_wp2
  go_ret
  exact⟨rfl,rfl⟩
end
section
open Go.RowKit
def Cp (x:UInt8):Value:=.int .u8 x.toNat
def Sl (W:World)(a:Option Addr)(xs:List Value):Prop:=xs=[]\/∃b off,a=some ⟨b,off,none⟩/\∀i v,xs[i]?=some v->W.cell? ⟨b,off+i,none⟩=some v
theorem Sl.nil (W:World)(a:Option Addr):Sl W a []:=.inl rfl
theorem Sl.step {W W':World}{a:Option Addr}{xs:List Value}(h:Sl W a xs)(k:Below W.heap.size W W'):Sl W' a xs:=by
 rcases h with h |⟨b,off,ha,h⟩
 ·exact .inl h
 ·refine .inr ⟨b,off,ha,fun i v hv=>?_⟩
  have h1:=h i v hv
  exact(k.cell (p:=⟨b,off+i,none⟩) (Aqy W _ h1)).trans h1
theorem Sl.alloc {W:World}{a:Option Addr}{xs:List Value}(h:Sl W a xs)(o:Obj):Sl (W.alloc o) a xs:=h.step ((Amc _ _).alloc (Am0 _) _)
theorem Sl.at {W:World}{a:Option Addr}{xs:List Value}{i:Nat}{v:Value}(h:Sl W a xs)(hv:xs[i]?=some v):∃b off,a=some ⟨b,off,none⟩/\W.cell? ⟨b,off+i,none⟩=some v:=by
 rcases h with h |⟨b,off,ha,h⟩
 ·subst h;simp at hv
 ·exact⟨b,off,ha,h i v hv⟩
theorem A7.set {w0 W:World}{b:Nat}{C:Array Value}{T:TypeId}(h:A7 w0 b C T W)(hb:w0.heap.size<=b)(j:Nat)(v:Value):A7 w0 b (C.setIfInBounds j v) T (W.setCell ⟨b,j,none⟩ v):=by
 refine⟨?_,h.old.setCell (p:=⟨b,j,none⟩) hb v⟩
 obtain⟨hlt,he⟩:=Alx.1 h.blk
 show(W.heap.modify b _)[b]?=_
 rw[Am6 (by rw[Array.size_modify];exact hlt),Array.getElem_modify_self,he]
 rfl
theorem A7.other {w0 W:World}{b:Nat}{C:Array Value}{T:TypeId}(h:A7 w0 b C T W){p:Addr}(hp:w0.heap.size<=p.block)(hne:b≠p.block)(v:Value):A7 w0 b C T (W.setCell p v) :=
 ⟨(An8 W p v b hne).trans h.blk,h.old.setCell hp v⟩
theorem A7.up {w0 w1 W:World}{b:Nat}{C:Array Value}{T:TypeId}(h:A7 w1 b C T W)(k:Below w0.heap.size w0 w1):A7 w0 b C T W :=
 ⟨h.blk,k.trans (h.old.mono k.size)⟩
end
section
open Go.RowKit
def Ap (a b c d:Int):Bool:=H5 a (-134217728) b && H5 b a 134217728 && H5 c (-134217728) d && H5 d c 134217728
theorem Bm (a b c d:Int)(w:World):Calls Vp.prog 90 #[.agg #[.int .i64 a,.int .i64 b,.int .i64 c,.int .i64 d]] w fun e w'=>e=.returned (.bool (Ap a b c d))/\Below w.heap.size w w':=by
 have X:=A7.new w #[.int .i64 a,.int .i64 b,.int .i64 c,.int .i64 d] 93;have x0:=X.cell 0 _ rfl;have x1:=X.cell 1 _ rfl;have x2:=X.cell 2 _ rfl;have x3:=X.cell 3 _ rfl;have HB:=Aly X.old;clear X;unfold Ap
 cases h1:H5 a (-134217728) b with
 | false =>
   go_enter Vp.func90,Tryz.ntmps90
   go_wp2_with (go_at_call 67;refine(Cr _ _ _ _).mono ?_;rintro e w' ⟨rfl,rfl⟩)
   go_ret
   exact⟨rfl,HB.out⟩
 | true =>
   cases h2:H5 b a 134217728 with
   | false =>
     go_enter Vp.func90,Tryz.ntmps90
     go_wp2_with (go_at_call 67;refine(Cr _ _ _ _).mono ?_;rintro e w' ⟨rfl,rfl⟩)
     go_ret
     exact⟨rfl,HB.out⟩
   | true =>
     cases h3:H5 c (-134217728) d with
     | false =>
       go_enter Vp.func90,Tryz.ntmps90
       go_wp2_with (go_at_call 67;refine(Cr _ _ _ _).mono ?_;rintro e w' ⟨rfl,rfl⟩)
       go_ret
       exact⟨rfl,HB.out⟩
     | true =>
       cases h4:H5 d c 134217728 with
       | false =>
         go_enter Vp.func90,Tryz.ntmps90
         go_wp2_with (go_at_call 67;refine(Cr _ _ _ _).mono ?_;rintro e w' ⟨rfl,rfl⟩)
         go_ret
         exact⟨rfl,HB.out⟩
       | true =>
         go_enter Vp.func90,Tryz.ntmps90
         go_wp2_with (go_at_call 67;refine(Cr _ _ _ _).mono ?_;rintro e w' ⟨rfl,rfl⟩)
         go_ret
         exact⟨rfl,HB.out⟩
end
section
open Go.RowKit
theorem Wz (d:Nat)(h:d<=11):floatBits .quo .f32 1065353216 (floatOfInt .f32 (wrap64 (2^d)))=some (Flo.Ea d):=by
 rcases(by omega:d=0\/d=1\/d=2\/d=3\/d=4\/d=5\/d=6\/d=7\/d=8\/d=9\/d=10\/d=11)with rfl|rfl|rfl|rfl|rfl|rfl|rfl|rfl|rfl|rfl|rfl|rfl<;>kernel_rfl
theorem A82 (d:Nat)(hd:d<=11)(w:World):Calls Vp.prog 96 #[.int .i64 d] w fun e w'=>e=.returned (.float .f32 (Flo.Ea d))/\w=w':=by
 obtain⟨q,hq⟩:∃q:Int,wrap64 (2^d)=q:=⟨_,rfl⟩
 have hz:∀w,(binOp .quo 87 (.float .f32 1065353216) (.float .f32 (floatOfInt .f32 q))).run Vp.prog w=.ok (.float .f32 (Flo.Ea d)) w:=fun w =>
  Amz w _ _ _ _ _ _ (by rw[<-hq];exact Wz d hd)
 generalize Flo.Ea d=r at *
 go_enter Vp.func96,Tryz.ntmps96
 go_wp2
 go_ret
 exact⟨rfl,rfl⟩
theorem A8q (d:Nat)(hd:d<=11)(w:World):Calls Vp.prog 84 #[.int .i64 d] w fun e w'=>e=.returned (.float .f32 (Flo.Ea d))/\w=w':=by
 obtain⟨q,hq⟩:∃q:Int,wrap64 (2^d)=q:=⟨_,rfl⟩
 have hz:∀w,(binOp .quo 87 (.float .f32 1065353216) (.float .f32 (floatOfInt .f32 q))).run Vp.prog w=.ok (.float .f32 (Flo.Ea d)) w:=fun w =>
  Amz w _ _ _ _ _ _ (by rw[<-hq];exact Wz d hd)
 generalize Flo.Ea d=r at *
 go_enter Vp.func84,Tryz.ntmps84
 go_wp2
 go_ret
 exact⟨rfl,rfl⟩
end
section
open Go.RowKit
theorem Ui (d:Nat)(h:d<=11):wrap64 (2^d)=((2^d:Nat):Int):=by
 rcases(by omega:d=0\/d=1\/d=2\/d=3\/d=4\/d=5\/d=6\/d=7\/d=8\/d=9\/d=10\/d=11)with rfl|rfl|rfl|rfl|rfl|rfl|rfl|rfl|rfl|rfl|rfl|rfl<;>kernel_rfl
def Eg (cx cy:Nat)(deep size:Int):Bool:=H5 deep 0 10 && H5 size 1 8 && Flo.Bw cx deep.toNat && Flo.Bw cy deep.toNat
theorem Wt {cx cy:Nat}{deep size:Int}(h:Eg cx cy deep size=true):0<=deep/\deep<=10/\1<=size/\size<=8:=by
 unfold Eg H5 at h;simp only[Am8,Amt]at h
 omega
end
section
open Go.RowKit
theorem J9 (a:Nat)(h:Flo.nan .f64 a=false)(w:World) :
 Calls Vp.prog 29 #[.float .f64 a,.float .f64 a] w fun e w'=>e=.returned (.bool true)/\w=w':=by
 obtain⟨r,hr,hr2⟩:=Flo.Ti Flo.Akb h;have hs:(FloatKind.f64.format.order a a == some .eq)=true:=by rw[Flo.Mi h];rfl
 have hs':(FloatKind.f64.format.order a a != some .eq)=false:=by rw[Flo.Mi h];rfl
 have hq:=fun w=>Amz (P:=Vp.prog) w .quo 57 .f64 _ _ _ hr
 have hz:(FloatKind.f64.format.order r r == some .eq)=true:=by rw[Flo.Mi hr2];rfl
 clear h hr hr2
 go_enter Vp.func29,Tryz.ntmps29
 go_wp2
 go_ret
 exact⟨rfl,rfl⟩
end
section
open Go.RowKit
theorem Av (P:Program)(w:World)(a:Addr)(m:Mode)(k:FloatKind)(b:Nat):(store a (.float k b) m).run P w=stored P w a (.float k b) m:=run_store P w a _ m rfl
theorem Am (P:Program)(w:World)(a:Addr)(m:Mode)(k:FloatKind)(x y:Nat):(store a (.complex k x y) m).run P w=stored P w a (.complex k x y) m:=run_store P w a _ m rfl
attribute [local go_sem] Av Am
end
end Go.Proofs.YtjaehldnlamgkaaGreatDoor
