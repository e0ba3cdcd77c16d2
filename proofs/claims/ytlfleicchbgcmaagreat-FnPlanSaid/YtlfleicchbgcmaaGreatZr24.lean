import Derived.Test.YtlfleicchbgcmaaGreatZr23
import Derived.Test.YtlfleicchbgcmaaGreatZr0
import Derived.Test.YtlfleicchbgcmaaGreatZrK
set_option linter.all false
set_option maxHeartbeats 16000000
set_option maxRecDepth 100000
namespace Go.Proofs.YtlfleicchbgcmaaGreat
namespace Cov
theorem cv1:Good 25 (-100663296) 100663296:=A8 (by decide +kernel)
theorem cv4:Good 22 (-29360128) 4194304:=A8 (by decide +kernel)
theorem Als:Good 22 (-20971520) 12582912:=A8 (by decide +kernel)
theorem Alu:Good 23 (-25165824) 25165824:=A8 (by decide +kernel)
theorem Alz:Good 21 (-14680064) 6291456:=A8 (by decide +kernel)
theorem Am3:Good 19 (-11010048) 2621440:=A8 (by decide +kernel)
theorem Am8:Good 19 (-12058624) 5767168:=A8 (by decide +kernel)
theorem Am9:Good 19 (-11010048) 4718592:=A8 (by decide +kernel)
theorem Amx:Good 19 (-2621440) 11010048:=A8 (by decide +kernel)
theorem Amz:Good 20 (-1048576) 9437184:=A8 (by decide +kernel)
theorem Anb:Good 17 4325376 131072:=A8 (by decide +kernel)
theorem Ane:Good 17 4587520 131072:=A8 (by decide +kernel)
theorem Anj:Good 19 4718592 1572864:=A8 (by decide +kernel)
theorem Anl:Good 18 5505024 1310720:=A8 (by decide +kernel)
theorem Anz:Good 19 4718592 4718592:=A8 (by decide +kernel)
theorem Ao5:Good 19 5767168 5767168:=A8 (by decide +kernel)
theorem Ak0:Good 21 6291456 14680064:=A8 (by decide +kernel)
theorem Aka:Good 25 100663296 33554432:=A8 (by decide +kernel)
end Cov
namespace Cov
theorem Am5:Good 20 (-9437184) 1048576:=A8 (by decide +kernel)
theorem Ama:Good 19 (-11010048) 5767168:=A8 (by decide +kernel)
theorem Ami:Good 22 (-4194304) 4194304:=A8 (by decide +kernel)
theorem Amj:Good 19 (-7864320) 8912896:=A8 (by decide +kernel)
theorem Amk:Good 19 (-7864320) 9961472:=A8 (by decide +kernel)
theorem Amo:Good 19 (-5767168) 8912896:=A8 (by decide +kernel)
theorem Ams:Good 20 (-5242880) 11534336:=A8 (by decide +kernel)
theorem Ang:Good 18 4456448 786432:=A8 (by decide +kernel)
theorem Ano:Good 18 6029312 1835008:=A8 (by decide +kernel)
theorem Anx:Good 20 7340032 3145728:=A8 (by decide +kernel)
theorem Ao1:Good 18 5505024 4456448:=A8 (by decide +kernel)
theorem Ajr:Good 19 1572864 9961472:=A8 (by decide +kernel)
theorem Ajy:Good 21 2097152 14680064:=A8 (by decide +kernel)
theorem Ak4:Good 23 25165824 8388608:=A8 (by decide +kernel)
theorem Akb:Good 25 100663296 100663296:=A8 (by decide +kernel)
end Cov
namespace Cov
theorem cv5:Good 22 (-29360128) 12582912:=A8 (by decide +kernel)
theorem cv8:Good 20 (-19922944) 1048576:=A8 (by decide +kernel)
theorem Alv:Good 20 (-15728640) 1048576:=A8 (by decide +kernel)
theorem Am0:Good 20 (-11534336) 1048576:=A8 (by decide +kernel)
theorem Am2:Good 19 (-12058624) 3670016:=A8 (by decide +kernel)
theorem An9:Good 21 2097152 2097152:=A8 (by decide +kernel)
theorem Anh:Good 18 4980736 262144:=A8 (by decide +kernel)
theorem Ani:Good 18 4980736 786432:=A8 (by decide +kernel)
theorem Ann:Good 18 6029312 1310720:=A8 (by decide +kernel)
theorem Anq:Good 19 4718592 3670016:=A8 (by decide +kernel)
theorem Ao0:Good 19 4718592 5767168:=A8 (by decide +kernel)
theorem Ao6:Good 19 4718592 6815744:=A8 (by decide +kernel)
theorem Ajw:Good 19 3670016 9961472:=A8 (by decide +kernel)
theorem Ak1:Good 22 12582912 4194304:=A8 (by decide +kernel)
theorem Ak5:Good 23 25165824 25165824:=A8 (by decide +kernel)
theorem Akc:Good 26 67108864 201326592:=A8 (by decide +kernel)
end Cov
namespace Cov
theorem cv6:Good 21 (-23068672) 2097152:=A8 (by decide +kernel)
theorem cv7:Good 21 (-23068672) 6291456:=A8 (by decide +kernel)
theorem Alq:Good 20 (-17825792) 3145728:=A8 (by decide +kernel)
theorem Am6:Good 20 (-9437184) 3145728:=A8 (by decide +kernel)
theorem Amg:Good 19 (-8912896) 7864320:=A8 (by decide +kernel)
theorem Amh:Good 22 (-12582912) 12582912:=A8 (by decide +kernel)
theorem Amu:Good 20 (-3145728) 9437184:=A8 (by decide +kernel)
theorem Anc:Good 17 4325376 393216:=A8 (by decide +kernel)
theorem Anf:Good 17 4587520 393216:=A8 (by decide +kernel)
theorem Ank:Good 19 5767168 524288:=A8 (by decide +kernel)
theorem Anr:Good 18 5505024 2359296:=A8 (by decide +kernel)
theorem Ao3:Good 18 6029312 4456448:=A8 (by decide +kernel)
theorem Ajv:Good 19 3670016 8912896:=A8 (by decide +kernel)
theorem Ajx:Good 20 3145728 11534336:=A8 (by decide +kernel)
theorem Ak2:Good 22 12582912 12582912:=A8 (by decide +kernel)
theorem Ak6:Good 24 16777216 50331648:=A8 (by decide +kernel)
end Cov
namespace Cov
theorem cv2:Good 24 (-50331648) 16777216:=A8 (by decide +kernel)
theorem Alr:Good 21 (-18874368) 6291456:=A8 (by decide +kernel)
theorem Alw:Good 20 (-15728640) 3145728:=A8 (by decide +kernel)
theorem Aly:Good 20 (-13631488) 3145728:=A8 (by decide +kernel)
theorem Ame:Good 19 (-9961472) 7864320:=A8 (by decide +kernel)
theorem Amf:Good 19 (-8912896) 6815744:=A8 (by decide +kernel)
theorem Aml:Good 19 (-6815744) 8912896:=A8 (by decide +kernel)
theorem Amv:Good 19 (-3670016) 11010048:=A8 (by decide +kernel)
theorem An0:Good 19 (-1572864) 11010048:=A8 (by decide +kernel)
theorem An1:Good 19 (-1572864) 12058624:=A8 (by decide +kernel)
theorem An3:Good 19 (-524288) 12058624:=A8 (by decide +kernel)
theorem An4:Good 21 (-2097152) 14680064:=A8 (by decide +kernel)
theorem An6:Good 24 (-16777216) 50331648:=A8 (by decide +kernel)
theorem Ant:Good 18 6029312 2359296:=A8 (by decide +kernel)
theorem Ajq:Good 19 1572864 8912896:=A8 (by decide +kernel)
theorem Ak7:Good 24 50331648 16777216:=A8 (by decide +kernel)
end Cov
namespace Cov
theorem cv9:Good 20 (-19922944) 3145728:=A8 (by decide +kernel)
theorem Alp:Good 20 (-17825792) 1048576:=A8 (by decide +kernel)
theorem Am1:Good 19 (-12058624) 2621440:=A8 (by decide +kernel)
theorem Am7:Good 19 (-12058624) 4718592:=A8 (by decide +kernel)
theorem Amn:Good 20 (-7340032) 11534336:=A8 (by decide +kernel)
theorem Amq:Good 19 (-4718592) 8912896:=A8 (by decide +kernel)
theorem An2:Good 19 (-524288) 11010048:=A8 (by decide +kernel)
theorem An5:Good 23 (-8388608) 25165824:=A8 (by decide +kernel)
theorem An7:Good 25 (-33554432) 100663296:=A8 (by decide +kernel)
theorem Ana:Good 21 2097152 6291456:=A8 (by decide +kernel)
theorem Anm:Good 18 5505024 1835008:=A8 (by decide +kernel)
theorem Anv:Good 19 5767168 3670016:=A8 (by decide +kernel)
theorem Anw:Good 20 7340032 1048576:=A8 (by decide +kernel)
theorem Ao4:Good 18 6029312 4980736:=A8 (by decide +kernel)
theorem Ak8:Good 24 50331648 50331648:=A8 (by decide +kernel)
end Cov
namespace Cov
theorem Am4:Good 19 (-11010048) 3670016:=A8 (by decide +kernel)
theorem Amc:Good 20 (-9437184) 5242880:=A8 (by decide +kernel)
theorem Amm:Good 19 (-6815744) 9961472:=A8 (by decide +kernel)
theorem Amp:Good 19 (-5767168) 9961472:=A8 (by decide +kernel)
theorem Amr:Good 19 (-4718592) 9961472:=A8 (by decide +kernel)
theorem Amw:Good 19 (-3670016) 12058624:=A8 (by decide +kernel)
theorem Anp:Good 19 4718592 2621440:=A8 (by decide +kernel)
theorem Ans:Good 18 5505024 2883584:=A8 (by decide +kernel)
theorem Ao8:Good 19 5767168 6815744:=A8 (by decide +kernel)
theorem Ao9:Good 19 5767168 7864320:=A8 (by decide +kernel)
theorem Ajo:Good 19 524288 8912896:=A8 (by decide +kernel)
theorem Ajp:Good 19 524288 9961472:=A8 (by decide +kernel)
theorem Aju:Good 19 2621440 9961472:=A8 (by decide +kernel)
theorem Ak3:Good 23 8388608 25165824:=A8 (by decide +kernel)
end Cov
namespace Cov
theorem Good.join {j:Nat}{cx cy x0 x1 y0 y1:Int}(a:Good j x0 y0)(b:Good j x0 y1)(c:Good j x1 y0)(d:Good j x1 y1)(h:x0=cx-(2^j:Nat)/\x1=cx +(2^j:Nat)/\y0=cy-(2^j:Nat)/\y1=cy +(2^j:Nat)):Good (j+1) cx cy:=by
 obtain⟨rfl,rfl,rfl,rfl⟩:=h
 exact Good.four a b c d
theorem cover:Good 27 0 134217728 :=
 Good.join (j:=26) (cx:=0) (cy:=134217728) (Good.join (j:=25) (cx:=-67108864) (cy:=67108864) cv0 cv1 (Good.join (j:=24) (cx:=-33554432) (cy:=33554432) cv2 cv3 (Good.join (j:=23) (cx:=-16777216) (cy:=16777216) (Good.join (j:=22) (cx:=-25165824) (cy:=8388608) cv4 cv5 (Good.join (j:=21) (cx:=-20971520) (cy:=4194304) cv6 cv7 (Good.join (j:=20) (cx:=-18874368) (cy:=2097152) cv8 cv9 Alp Alq (by decide +kernel)) Alr (by decide +kernel)) Als (by decide +kernel)) Alu (Good.join (j:=22) (cx:=-8388608) (cy:=8388608) (Good.join (j:=21) (cx:=-12582912) (cy:=4194304) (Good.join (j:=20) (cx:=-14680064) (cy:=2097152) Alv Alw Alx Aly (by decide +kernel)) Alz (Good.join (j:=20) (cx:=-10485760) (cy:=2097152) Am0 (Good.join (j:=19) (cx:=-11534336) (cy:=3145728) Am1 Am2 Am3 Am4 (by decide +kernel)) Am5 Am6 (by decide +kernel)) (Good.join (j:=20) (cx:=-10485760) (cy:=6291456) (Good.join (j:=19) (cx:=-11534336) (cy:=5242880) Am7 Am8 Am9 Ama (by decide +kernel)) Amb Amc (Good.join (j:=19) (cx:=-9437184) (cy:=7340032) Amd Ame Amf Amg (by decide +kernel)) (by decide +kernel)) (by decide +kernel)) Amh Ami (Good.join (j:=21) (cx:=-4194304) (cy:=12582912) (Good.join (j:=20) (cx:=-6291456) (cy:=10485760) (Good.join (j:=19) (cx:=-7340032) (cy:=9437184) Amj Amk Aml Amm (by decide +kernel)) Amn (Good.join (j:=19) (cx:=-5242880) (cy:=9437184) Amo Amp Amq Amr (by decide +kernel)) Ams (by decide +kernel)) Amt (Good.join (j:=20) (cx:=-2097152) (cy:=10485760) Amu (Good.join (j:=19) (cx:=-3145728) (cy:=11534336) Amv Amw Amx Amy (by decide +kernel)) Amz (Good.join (j:=19) (cx:=-1048576) (cy:=11534336) An0 An1 An2 An3 (by decide +kernel)) (by decide +kernel)) An4 (by decide +kernel)) (by decide +kernel)) An5 (by decide +kernel)) An6 (by decide +kernel)) An7 (by decide +kernel)) An8 (Good.join (j:=25) (cx:=67108864) (cy:=67108864) (Good.join (j:=24) (cx:=33554432) (cy:=33554432) (Good.join (j:=23) (cx:=16777216) (cy:=16777216) (Good.join (j:=22) (cx:=8388608) (cy:=8388608) (Good.join (j:=21) (cx:=4194304) (cy:=4194304) An9 Ana (Good.join (j:=20) (cx:=6291456) (cy:=2097152) (Good.join (j:=19) (cx:=5242880) (cy:=1048576) (Good.join (j:=18) (cx:=4718592) (cy:=524288) (Good.join (j:=17) (cx:=4456448) (cy:=262144) Anb Anc Ane Anf (by decide +kernel)) Ang Anh Ani (by decide +kernel)) Anj Ank (Good.join (j:=18) (cx:=5767168) (cy:=1572864) Anl Anm Ann Ano (by decide +kernel)) (by decide +kernel)) (Good.join (j:=19) (cx:=5242880) (cy:=3145728) Anp Anq (Good.join (j:=18) (cx:=5767168) (cy:=2621440) Anr Ans Ant Anu (by decide +kernel)) Anv (by decide +kernel)) Anw Anx (by decide +kernel)) (Good.join (j:=20) (cx:=6291456) (cy:=6291456) (Good.join (j:=19) (cx:=5242880) (cy:=5242880) Anz Ao0 (Good.join (j:=18) (cx:=5767168) (cy:=4718592) Ao1 Ao2 Ao3 Ao4 (by decide +kernel)) Ao5 (by decide +kernel)) (Good.join (j:=19) (cx:=5242880) (cy:=7340032) Ao6 Ao7 Ao8 Ao9 (by decide +kernel)) Ajm Ajn (by decide +kernel)) (by decide +kernel)) (Good.join (j:=21) (cx:=4194304) (cy:=12582912) (Good.join (j:=20) (cx:=2097152) (cy:=10485760) (Good.join (j:=19) (cx:=1048576) (cy:=9437184) Ajo Ajp Ajq Ajr (by decide +kernel)) Ajs (Good.join (j:=19) (cx:=3145728) (cy:=9437184) Ajt Aju Ajv Ajw (by decide +kernel)) Ajx (by decide +kernel)) Ajy Ajz Ak0 (by decide +kernel)) Ak1 Ak2 (by decide +kernel)) Ak3 Ak4 Ak5 (by decide +kernel)) Ak6 Ak7 Ak8 (by decide +kernel)) Ak9 Aka Akb (by decide +kernel)) Akc (by decide +kernel)
theorem A8b (a b:Rat):∀k,zr a (-b) k=((zr a b k).1,-(zr a b k).2)
 | 0=>by simp[zr]
 | k+1=>by
   have h:=A8b a b k;unfold zr;rw[h];dsimp only;generalize (zr a b k).1=x;generalize (zr a b k).2=y
   refine Prod.ext ?_ ?_
   ·show(x*x - -y*-y) / 16777216+a=(x*x-y*y) / 16777216+a
    grind
   ·show 2 *(x*-y) / 16777216+-b=-(2 *(x*y) / 16777216+b)
    grind
theorem A1x {px py:Int}(h1:-134217728<=px)(h2:px<=134217728)(h3:-134217728<=py)(h4:py<=134217728)(h:Inn px py):Fine px py:=by
 have e:((2^27:Nat):Int)=134217728:=by decide
 have hc:=cover;unfold Good at hc;rw[e]at hc
 rcases Aro 0 py with hp|hp
 ·exact hc px py (by omega) (by omega) (by omega) (by omega) h
 ·have hi:Inn px (-py):=by
   unfold Inn at h ⊢;rw[Arm]
   exact h
  have hf:=hc px (-py) (by omega) (by omega) (by omega) (by omega) hi
  intro k hk;have:=hf k hk;rw[Rat.intCast_neg,A8b]at this;obtain⟨g1,g2⟩:=this
  refine⟨g1,?_⟩
  dsimp only at g2
  grind
end Cov
section
open Cov (Le zr Fine Inn)
theorem A94 {p c d y:Int}(h1:c<=y)(h2:y<=d):(p*c<=p*y\/p*d<=p*y) /\(p*y<=p*c\/p*y<=p*d):=by
 rcases Aro 0 p with h|h
 ·exact⟨.inl (Asl h1 h),.inr (Asl h2 h)⟩
 ·exact⟨.inr (Atu h h2),.inl (Atu h h1)⟩
theorem Aij {p c d y:Rat}(h1:c<=y)(h2:y<=d):(p*c<=p*y\/p*d<=p*y) /\(p*y<=p*c\/p*y<=p*d):=by
 rcases Rat.le_total (a:=0) (b:=p)with h|h
 ·exact⟨.inl (Aq6 h1 h),.inr (Aq6 h2 h)⟩
 ·have a:=Rat.mul_le_mul_of_nonneg_left h1 (by grind:0<=-p)
  have b:=Rat.mul_le_mul_of_nonneg_left h2 (by grind:0<=-p)
  exact⟨.inr (by grind),.inl (by grind)⟩
theorem Acl (x:Bx):Qs x<=x.a*x.c/\Qs x<=x.a*x.d/\Qs x<=x.b*x.c/\Qs x<=x.b*x.d:=by unfold Qs;omega
theorem Acg (x:Bx):x.a*x.c<=Qr x/\x.a*x.d<=Qr x/\x.b*x.c<=Qr x/\x.b*x.d<=Qr x:=by unfold Qr;omega
theorem Om {x:Bx}{p q:Int}(h1:x.a<=p)(h2:p<=x.b)(h3:x.c<=q)(h4:q<=x.d):Qs x<=p*q/\p*q<=Qr x:=by
 have l:=Acl x;have u:=Acg x;have a:=A94 (p:=x.a) h3 h4;have b:=A94 (p:=x.b) h3 h4;have c:=A94 (p:=q) h1 h2;rw[Aqi q,Aqi q,Aqi q]at c
 omega
theorem Ag0 {x:Bx}{p q:Rat}(h1:(x.a:Rat)<=p)(h2:p<=x.b)(h3:(x.c:Rat)<=q)(h4:q<=x.d):(Qs x:Rat)<=p*q/\p*q <=(Qr x:Rat):=by
 have l:=Acl x;have u:=Acg x;have cst:∀{m s t:Int},m<=s*t ->(m:Rat)<=s*t:=fun h=>by exact_mod_cast h
 have cst':∀{m s t:Int},s*t<=m ->(s:Rat)*t<=m:=fun h=>by exact_mod_cast h
 have l1:=cst l.1;have l2:=cst l.2.1;have l3:=cst l.2.2.1;have l4:=cst l.2.2.2;have u1:=cst' u.1;have u2:=cst' u.2.1;have u3:=cst' u.2.2.1;have u4:=cst' u.2.2.2;have a:=Aij (p:=x.a) h3 h4;have b:=Aij (p:=x.b) h3 h4;have c:=Aij (p:=q) h1 h2;rw[Rat.mul_comm q,Rat.mul_comm q,Rat.mul_comm q]at c
 grind
theorem K9 {l u x:Int}(h1:l<=x)(h2:x<=u):Aw l u<=x*x/\x*x<=Ba l u:=by
 have a:=E0 x;have b:=A94 (p:=x) h1 h2;have c:=A94 (p:=l) h1 h2;have d:=A94 (p:=u) h1 h2;have e:=Aqi l x;have f:=Aqi u x;have g:=E0 l;have i:=E0 u
 refine⟨?_,by have:=Cov.Mr h1 h2;unfold Ba;omega⟩
 unfold Aw
 split
 ·exact a
 ·rename_i hn
  by_cases k:0<=l
  ·have:l*l<=x*x:=Aqy h1 h1 k (by omega)
   omega
  ·have:u*u<=x*x:=by
    have:=Aqy (a:=-u) (b:=-u) (c:=-x) (d:=-x) (by omega) (by omega) (by omega) (by omega)
    rwa [Arm,Arm]at this
   omega
theorem A08 {l u:Int}{x:Rat}(h1:(l:Rat)<=x)(h2:x<=u):(Aw l u:Rat)<=x*x/\x*x <=(Ba l u:Rat):=by
 have cst:∀{m s:Int},m<=s*s ->(m:Rat)<=s*s:=fun h=>by exact_mod_cast h
 have cst':∀{m s:Int},s*s<=m ->(s:Rat)*s<=m:=fun h=>by exact_mod_cast h
 have hi1:(l:Rat)*l<=Ba l u:=cst' (by unfold Ba;omega)
 have hi2:(u:Rat)*u<=Ba l u:=cst' (by unfold Ba;omega)
 have a:=Cov.E0 x
 constructor
 ·by_cases hc:l<=0/\0<=u
  ·have:Aw l u=0:=by unfold Aw;rw[Apb hc]
   rw[this]
   exact a
  ·by_cases k:0<=l
   ·have:Aw l u<=l*l:=by unfold Aw;rw[Ap8 hc];omega
    have h3:=cst this;have k':(0:Rat)<=l:=by exact_mod_cast k
    have b:=Aq6 h1 k';have c:=Rat.mul_le_mul_of_nonneg_right h1 (by grind:0<=x)
    grind
   ·have:Aw l u<=u*u:=by unfold Aw;rw[Ap8 hc];omega
    have h3:=cst this;have k':(u:Rat)<=0:=by exact_mod_cast (by omega:u<=0)
    have b:=Rat.mul_le_mul_of_nonneg_left h2 (by grind:0<=-(u:Rat))
    have c:=Rat.mul_le_mul_of_nonneg_right h2 (by grind:0<=-x)
    grind
 ·rcases Rat.le_total (a:=0) (b:=x)with k|k
  ·have b:=Aq6 h2 k;have c:=Rat.mul_le_mul_of_nonneg_right h2 (by grind:0 <=(u:Rat))
   grind
  ·have b:=Rat.mul_le_mul_of_nonneg_left h1 (by grind:0<=-x)
   have c:=Rat.mul_le_mul_of_nonneg_right h1 (by grind:0<=-(l:Rat))
   grind
def InB (x y:Rat)(z:Bx):Prop:=(z.a:Rat)<=x/\x<=z.b /\(z.c:Rat)<=y/\y<=z.d
theorem Sw (a:Int){k:Int}(hk:0<k):a<=k*Kz a k:=by
 unfold Kz;have:=Int.mul_ediv_self_le (x:=-a) (k:=k) (by omega)
 rw[Int.mul_neg]
 omega
theorem Oe (a:Int){k:Int}(hk:0<k):k *(a / k)<=a:=Int.mul_ediv_self_le (by omega)
theorem Abb {c q a:Int}(h:c*q<=a):(c:Rat) *(q:Rat)<=a:=by exact_mod_cast h
theorem Ahh {m n:Int}(h:m<n):(m:Rat) <(n:Rat):=by exact_mod_cast h
theorem Aba {c q a:Int}(h:a<=c*q):(a:Rat) <=(c:Rat) *(q:Rat):=by exact_mod_cast h
theorem InB.next {c z n:Bx}{px py:Rat}{k:Nat}(hp:InB px py c)(h:InB (zr px py k).1 (zr px py k).2 z)(hn:Bx.next c z=some n):InB (zr px py (k+1)).1 (zr px py (k+1)).2 n:=by
 unfold Bx.next at hn
 split at hn
 ·split at hn
  ·cases hn
   obtain⟨a1,a2,a3,a4⟩:=h;obtain⟨p1,p2,p3,p4⟩:=hp;obtain⟨g1,g2⟩:=Cov.Aeh px py k;have s1:=A08 a1 a2;have s2:=A08 a3 a4;have m:=Ag0 a1 a2 a3 a4;have e:((16777216:Int):Rat)=16777216:=rfl;have f1:=Abb (Oe (Aw z.a z.b-Ba z.c z.d) (k:=16777216) (by decide))
   have f2:=Aba (Sw (Ba z.a z.b-Aw z.c z.d) (k:=16777216) (by decide))
   have f3:=Abb (Oe (2*Qs z) (k:=16777216) (by decide))
   have f4:=Aba (Sw (2*Qr z) (k:=16777216) (by decide))
   rw[e]at f1 f2 f3 f4;unfold InB Bx.add Bx.sq;dsimp only;have c1:∀x y:Int,((x-y:Int):Rat)=x-y:=fun x y=>by simp
   have c2:∀x:Int,((2*x:Int):Rat)=2*x:=fun x=>by simp
   have c3:∀x y:Int,((x+y:Int):Rat)=x+y:=fun x y=>by simp
   rw[c1]at f1 f2;rw[c2]at f3 f4;rw[c3,c3,c3,c3];generalize (zr px py k).1=X at *;generalize (zr px py k).2=Y at *;generalize (zr px py (k+1)).1=X' at *;generalize (zr px py (k+1)).2=Y' at *
   refine⟨?_,?_,?_,?_⟩<;>grind
  ·cases hn
 ·cases hn
theorem InB.A2u {c:Bx}{px py:Rat}(hp:InB px py c):∀{k:Nat} {z:Bx},Dx c k=some z->InB (zr px py k).1 (zr px py k).2 z
 | 0,z,h=>by
   cases h
   refine⟨?_,?_,?_,?_⟩<;>exact Rat.le_refl
 | k+1,z,h=>by
   unfold Dx at h
   cases ho:Dx c k with
   | none=>rw[ho]at h;cases h
   | some y =>
     rw[ho]at h
     exact hp.next (hp.A2u ho) h
theorem Fine.Ahv {c:Bx}{px py:Int}(h1:c.a<=px)(h2:px<=c.b)(h3:c.c<=py)(h4:py<=c.d)(hf:Fine px py){M:Nat}(hM:M<=31):whB c M=false:=by
 rw[Bool.eq_false_iff];intro hw;unfold whB at hw;rw[List.any_eq_true]at hw;obtain⟨k,hk,ho⟩:=hw;rw[Atn]at hk;unfold Kv at ho
 split at ho
 ·rename_i z hz
  have hp:InB (px:Rat) (py:Rat) c:=⟨by exact_mod_cast h1,by exact_mod_cast h2,by exact_mod_cast h3,by exact_mod_cast h4⟩
  obtain⟨a1,a2,a3,a4⟩:=hp.A2u hz;obtain⟨-,f⟩:=hf k (by omega)
  have s1:=A08 a1 a2;have s2:=A08 a3 a4;have hn:(1125899906842624:Int)<Zu z:=by simpa using ho
  have hn':((1125899906842624:Int):Rat) <(Zu z:Rat):=Ahh hn;have e:(Zu z:Rat)=Aw z.a z.b+Aw z.c z.d:=by unfold Zu;simp
  rw[e]at hn';have e2:((1125899906842624:Int):Rat)=33554432*33554432:=by decide +kernel
  rw[e2]at hn'
  grind
 ·cases ho
end
section
open Cov (Le zr Fine Inn)
structure Sub (y x:Bx):Prop where
 a:x.a<=y.a
 b:y.b<=x.b
 c:x.c<=y.c
 d:y.d<=x.d
 h:y.a<=y.b
 v:y.c<=y.d
theorem Jk {a b k:Int}(hk:0<k)(h:a<=b):a / k<=b / k:=Int.ediv_le_ediv hk h
theorem Ob {a b k:Int}(hk:0<k)(h:a<=b):Kz a k<=Kz b k:=by
 unfold Kz;have:=Jk hk (show -b<=-a by omega)
 omega
theorem Zs {a b k:Int}(hk:0<k)(h:a<=b):a / k<=Kz b k:=by
 have h1:=Oe a hk;have h2:=Sw b hk
 exact Int.le_of_mul_le_mul_left (by omega) hk
theorem Hz {l u l' u':Int}(h1:l<=l')(h2:l'<=u')(h3:u'<=u):Ba l' u'<=Ba l u:=by
 have a:=(K9 h1 (show l'<=u by omega)).2
 have b:=(K9 (show l<=u' by omega) h3).2
 show max (l'*l') (u'*u')<=_
 omega
theorem I0 {l u l' u':Int}(h1:l<=l')(h2:l'<=u')(h3:u'<=u):Aw l u<=Aw l' u':=by
 have a:=(K9 h1 (show l'<=u by omega)).1
 have b:=(K9 (show l<=u' by omega) h3).1
 by_cases h:l'<=0/\0<=u'
 ·have e:Aw l' u'=0:=by unfold Aw;rw[Apb h]
  have g:Aw l u=0:=by unfold Aw;rw[Apb ⟨by omega,by omega⟩]
  omega
 ·have e:Aw l' u'=min (l'*l') (u'*u'):=by unfold Aw;rw[Ap8 h]
  omega
theorem Ki {l u:Int}(h:l<=u):Aw l u<=Ba l u:=by
 have a:=K9 (Asu l) h
 omega
theorem Sub.mul {y x:Bx}(s:Sub y x):Qs x<=Qs y/\Qr y<=Qr x/\Qs y<=Qr y:=by
 obtain⟨a,b,c,d,h,v⟩:=s;have p1:=Om (x:=x) (p:=y.a) (q:=y.c) a (by omega) c (by omega)
 have p2:=Om (x:=x) (p:=y.a) (q:=y.d) a (by omega) (by omega) d
 have p3:=Om (x:=x) (p:=y.b) (q:=y.c) (by omega) b c (by omega)
 have p4:=Om (x:=x) (p:=y.b) (q:=y.d) (by omega) b (by omega) d
 have p5:=Om (x:=y) (p:=y.a) (q:=y.c) (Asu _) h (Asu _) v
 refine⟨?_,?_,by omega⟩
 ·show _<=min (min (y.a*y.c) (y.a*y.d)) (min (y.b*y.c) (y.b*y.d))
  omega
 ·show max (max (y.a*y.c) (y.a*y.d)) (max (y.b*y.c) (y.b*y.d))<=_
  omega
theorem Sub.sq {y x:Bx}(s:Sub y x):Sub y.sq x.sq:=by
 obtain⟨m1,m2,m3⟩:=s.mul;obtain⟨a,b,c,d,h,v⟩:=s;have l1:=I0 a h b;have u1:=Hz a h b;have l2:=I0 c v d;have u2:=Hz c v d;have k1:=Ki h;have k2:=Ki v
 exact⟨Jk (by decide) (by omega),Ob (by decide) (by omega),Jk (by decide) (by omega),Ob (by decide) (by omega),Zs (by decide) (by omega),Zs (by decide) (by omega)⟩
theorem Sub.add {y x y' x':Bx}(s:Sub y x)(t:Sub y' x'):Sub (y.add y') (x.add x'):=by
 obtain⟨a,b,c,d,h,v⟩:=s;obtain⟨a',b',c',d',h',v'⟩:=t
 exact⟨by show x.a+x'.a<=y.a+y'.a;omega,by show y.b+y'.b<=x.b+x'.b;omega,by show x.c+x'.c<=y.c+y'.c;omega,by show y.d+y'.d<=x.d+x'.d;omega,by show y.a+y'.a<=y.b+y'.b;omega,by show y.c+y'.c<=y.d+y'.d;omega⟩
theorem Sub.ok {y x:Bx}(s:Sub y x)(hx:x.ok=true):y.ok=true:=by
 have h:=Bx.bd hx;obtain⟨a,b,c,d,h',v⟩:=s;unfold Bx.ok Bl Gt;simp only[Ap7,Apm]
 omega
theorem Sub.next {c c' z z' n:Bx}(s:Sub c' c)(t:Sub z' z)(h:Bx.next c z=some n):∃n',Bx.next c' z'=some n'/\Sub n' n:=by
 unfold Bx.next at h
 split at h
 ·rename_i h1
  split at h
  ·rename_i h2
   cases h
   have t1:=t.sq;have t2:=t1.add s
   refine⟨_,?_,t2⟩
   unfold Bx.next;rw[Apb (t1.ok h1),Apb (t2.ok h2)]
  ·cases h
 ·cases h
theorem Sub.A2u {c c':Bx}(s:Sub c' c):∀{k:Nat} {z:Bx},Dx c k=some z->∃z',Dx c' k=some z'/\Sub z' z
 | 0,z,h=>by
   cases h
   exact⟨_,rfl,by constructor<;>exact Asu _⟩
 | k+1,z,h=>by
   unfold Dx at h
   cases ho:Dx c k with
   | none=>rw[ho]at h;cases h
   | some y =>
     rw[ho]at h;obtain⟨y',h1,h2⟩:=s.A2u ho;obtain⟨n',h3,h4⟩:=s.next h2 h
     refine⟨n',?_,h4⟩
     unfold Dx;rw[h1]
     exact h3
theorem Sub.wh {c c':Bx}(s:Sub c' c){M:Nat}(h:whB c M=true):whB c' M=true:=by
 unfold whB at h ⊢;rw[List.any_eq_true]at h ⊢;obtain⟨k,hk,ho⟩:=h
 refine⟨k,hk,?_⟩
 unfold Kv at ho ⊢
 split at ho
 ·rename_i z hz
  obtain⟨z',h1,h2⟩:=s.A2u hz;rw[h1];obtain⟨a,b,c,d,h',v⟩:=h2;have l1:=I0 a h' b;have l2:=I0 c v d;have ho:1125899906842624<Aw z.a z.b+Aw z.c z.d:=of_decide_eq_true ho;have:1125899906842624<Aw z'.a z'.b+Aw z'.c z'.d:=by omega
  exact Apj this
 ·cases ho
theorem Sub.coarse {y x:Bx}(s:Sub y x):Sub y.coarse x.coarse:=by
 obtain⟨a,b,c,d,h,v⟩:=s
 exact⟨Jk (by decide) a,Ob (by decide) b,Jk (by decide) c,Ob (by decide) d,Zs (by decide) h,Zs (by decide) v⟩
theorem Sub.Aoa {y x:Bx}(s:Sub y x)(h:Gy x<=0):Gy y<=0:=by
 obtain⟨a,b,c,d,h',v⟩:=s.coarse;have u1:=Hz (l:=x.coarse.a+4096) (u:=x.coarse.b+4096) (l':=y.coarse.a+4096) (u':=y.coarse.b+4096) (by omega) (by omega) (by omega)
 have u2:=Hz c v d;unfold Gy at h ⊢
 omega
theorem Wq {A E D F G A' E' D' F' G' K:Int}(hK:0<=K)(hA:A<=A')(hE:E<=E')(hD:D'<=D)(hF:F'<=F)(hG:G'<=G)(p1:0<=A)(p2:0<=E)(p3:A'<=D')(p4:E'<=F') :
 (if G'<0 then A'+E' else D'+F')*G'-E'*K <=(if G<0 then A+E else D+F)*G-E*K:=by
 have hk:=Arn hE hK
 by_cases h:G<0
 ·rw[Apb h,Apb (show G'<0 by omega)]
  have h1:=Int.mul_le_mul_of_nonpos_right (show A+E<=A'+E' by omega) (show G'<=0 by omega)
  have h2:=Asl hG (show 0<=A+E by omega)
  omega
 ·rw[Ap8 h];have h0:0 <=(D+F)*G:=Aqt (by omega) (by omega)
  by_cases h':G'<0
  ·rw[Apb h'];have:(A'+E')*G'<=0:=Int.mul_nonpos_of_nonneg_of_nonpos (by omega) (by omega)
   omega
  ·rw[Ap8 h'];have:(D'+F')*G' <=(D+F)*G:=Aqy (by omega) hG (by omega) (by omega)
   omega
theorem Sb (l u:Int):0<=Aw l u:=by
 have a:=E0 l;have b:=E0 u;unfold Aw
 split<;>omega
theorem Sub.All {y x:Bx}(s:Sub y x):Gx y<=Gx x:=by
 obtain⟨a,b,c,d,h',v⟩:=s.coarse;have u1:=Hz (l:=x.coarse.a-1024) (u:=x.coarse.b-1024) (l':=y.coarse.a-1024) (u':=y.coarse.b-1024) (by omega) (by omega) (by omega)
 have l1:=I0 (l:=x.coarse.a-1024) (u:=x.coarse.b-1024) (l':=y.coarse.a-1024) (u':=y.coarse.b-1024) (by omega) (by omega) (by omega)
 have u2:=Hz c v d;have l2:=I0 c v d;have k1:=Ki (l:=y.coarse.a-1024) (u:=y.coarse.b-1024) (by omega)
 have k2:=Ki v;unfold Gx
 refine Wq (by decide) l1 l2 u1 u2 ?_ (Sb _ _) (Sb _ _) k1 k2
 unfold Kp
 omega
theorem Ws {x:Bx}{p q:Int}(h1:x.a<=p)(h2:p<=x.b)(h3:x.c<=q)(h4:q<=x.d):x.coarse.a*4096<=p/\p<=x.coarse.b*4096/\x.coarse.c*4096<=q/\q<=x.coarse.d*4096:=by
 have a:=Oe x.a (k:=4096) (by decide)
 have b:=Sw x.b (k:=4096) (by decide)
 have c:=Oe x.c (k:=4096) (by decide)
 have d:=Sw x.d (k:=4096) (by decide)
 unfold Bx.coarse;dsimp only
 omega
theorem Uh (l u:Int):Ba (l*4096) (u*4096)=Ba l u*16777216:=by
 unfold Ba;have e:∀x:Int,x*4096 *(x*4096)=x*x*16777216:=fun x=>by rw[Aqf,Int.mul_left_comm 4096,<-Aqf];rfl
 rw[e,e]
 omega
theorem A5y (l u:Int):Aw (l*4096) (u*4096)=Aw l u*16777216:=by
 have e:∀x:Int,x*4096 *(x*4096)=x*x*16777216:=fun x=>by rw[Aqf,Int.mul_left_comm 4096,<-Aqf];rfl
 unfold Aw
 by_cases h:l<=0/\0<=u
 ·rw[Apb h,Apb ⟨by omega,by omega⟩];rfl
 ·rw[Ap8 h,Ap8 (by omega),e,e]
  omega
theorem Abk {x:Bx}{p q:Int}(h1:x.a<=p)(h2:p<=x.b)(h3:x.c<=q)(h4:q<=x.d)(h:Gy x<=0):Inn p q:=by
 obtain⟨a,b,c,d⟩:=Ws h1 h2 h3 h4;have s1:=(K9 (l:=(x.coarse.a+4096)*4096) (u:=(x.coarse.b+4096)*4096) (x:=p+16777216) (by omega) (by omega)).2
 have s2:=(K9 c d).2;rw[Uh]at s1 s2;unfold Gy at h
 right
 omega
theorem Ab5 {x:Bx}{p q:Int}(h1:x.a<=p)(h2:p<=x.b)(h3:x.c<=q)(h4:q<=x.d)(h:Gx x<=0):Inn p q:=by
 obtain⟨a,b,c,d⟩:=Ws h1 h2 h3 h4;have s1:=K9 (l:=(x.coarse.a-1024)*4096) (u:=(x.coarse.b-1024)*4096) (x:=p-4194304) (by omega) (by omega)
 have s2:=K9 c d;rw[Uh,A5y]at s1 s2;have n1:=Sb (x.coarse.a-1024) (x.coarse.b-1024);have n2:=Sb x.coarse.c x.coarse.d;have hb:p-4194304 <=(x.coarse.b-1024)*4096:=by omega
 unfold Gx Kp at h
 left
 generalize Ba (x.coarse.a-1024) (x.coarse.b-1024)=D at *;generalize Ba x.coarse.c x.coarse.d=F at *;generalize Aw (x.coarse.a-1024) (x.coarse.b-1024)=A at *;generalize Aw x.coarse.c x.coarse.d=E at *;generalize x.coarse.b-1024=B at *;generalize p-4194304=u at *;generalize hU:u*u=uu at *;generalize hV:q*q=qq at *
 have k:=Wq (A:=A*16777216) (E:=E*16777216) (D:=D*16777216) (F:=F*16777216) (G:=(D+F+B*4096)*16777216) (A':=uu) (E':=qq) (D':=uu) (F':=qq) (G':=uu+qq+u*16777216) (K:=70368744177664)
  (by decide) (by omega) (by omega) (by omega) (by omega) (by omega) (by omega) (by omega) (Asu _) (Asu _)
 have e:(if uu+qq+u*16777216<0 then uu+qq else uu+qq)=uu+qq:=by split<;>rfl
 rw[e]at k
 have z:(if(D+F+B*4096)*16777216<0 then A*16777216+E*16777216 else D*16777216+F*16777216) *((D+F+B*4096)*16777216)-E*16777216*70368744177664 =
  ((if D+F+B*4096<0 then A+E else D+F) *(D+F+B*4096)-E*4194304)*281474976710656:=by
  have sc:∀x y g:Int,(x*16777216+y*16777216) *(g*16777216)=(x+y)*g*281474976710656:=fun x y g=>by
   rw[<-Asa,Aqf,Int.mul_left_comm 16777216,<-Aqf]
   rfl
  by_cases hg:D+F+B*4096<0
  ·rw[Apb hg,Apb (by omega),sc]
   omega
  ·rw[Ap8 hg,Ap8 (by omega),sc]
   omega
 rw[z]at k
 omega
theorem Sub.state {y x:Bx}(s:Sub y x)(hx:x.ok=true){M:Nat}(hM:M<=31)(h:stB x M≠0):stB y M=stB x M:=by
 unfold stB at h ⊢
 by_cases h1:Gx x<=0\/Gy x<=0
 ·rw[Apb h1];rw[Apb (h1.imp (fun g=>Int.le_trans s.All g) fun g=>s.Aoa g)]
 ·rw[Ap8 h1]at h ⊢
  by_cases h2:whB x M=true
  ·rw[Apb h2];rw[Ap8 ?_,Apb (s.wh h2)];intro h3;have hb:=Bx.bd hx;have hi:Inn y.a y.c:=h3.elim (fun g=>Ab5 (Asu _) s.h (Asu _) s.v g) (fun g=>Abk (Asu _) s.h (Asu _) s.v g)
   have hf:=Cov.A1x (by have:=s.a;omega) (by have:=s.b;have:=s.h;omega) (by have:=s.c;omega) (by have:=s.d;have:=s.v;omega) hi
   have:=Fine.Ahv (c:=x) s.a (by have:=s.b;have:=s.h;omega) s.c (by have:=s.d;have:=s.v;omega) hf hM
   rw[h2]at this
   cases this
  ·rw[Ap8 h2]at h
   exact absurd rfl h
end
section
open Go.RowKit Flo
theorem Ae5 {A B:Int}{d s i j k:Nat}(hd:d<=10)(hk:k<4) :
 Sub (bxC (2*A +(((2*j+k % 2) / s:Nat):Int)*s) (2*B +(((2*i+k / 2) / s:Nat):Int)*s) (d+1) ((2*i+k / 2) % s) ((2*j+k % 2) % s)) (bxC A B d i j):=by
 have e1:(((2*j+k % 2) / s:Nat):Int)*s +((2*j+k % 2) % s:Nat)=2*j +(k % 2:Nat):=by
  have:=Asq (2*j+k % 2) s;rw[Apr]at this
  exact_mod_cast this
 have e2:(((2*i+k / 2) / s:Nat):Int)*s +((2*i+k / 2) % s:Nat)=2*i +(k / 2:Nat):=by
  have:=Asq (2*i+k / 2) s;rw[Apr]at this
  exact_mod_cast this
 have p:(2^(24-d):Nat)=2*2^(24-(d+1)):=by rw[<-Nat.pow_succ'];congr 1;omega
 have hp:(0:Int) <((2^(24-(d+1)):Nat):Int):=by have:=Ap9 (24-(d+1));omega
 have key:∀(X x y:Int) (t:Nat),x+y=2*t+X->∀z:Int,(2*z+x+y) *((2^(24-(d+1)):Nat):Int)=(z+t) *((2^(24-d):Nat):Int)+X *((2^(24-(d+1)):Nat):Int):=fun X x y t h z=>by
  rw[p,Apx,show 2*z+x+y=(z+t)*2+X from by omega,Asa,Aqf]
  rfl
 have k1:=key _ _ _ j (by rw[e1]) A
 have k2:=key _ _ _ i (by rw[e2]) B
 have p':((2^(24-d):Nat):Int)=2 *((2^(24-(d+1)):Nat):Int):=by rw[p,Apx];rfl
 have c1:(k % 2:Nat)=0 \/(k % 2:Nat)=1:=by omega
 have c2:(k / 2:Nat)=0 \/(k / 2:Nat)=1:=by omega
 have f1:((k % 2:Nat):Int) *((2^(24-(d+1)):Nat):Int)=0 \/((k % 2:Nat):Int) *((2^(24-(d+1)):Nat):Int)=((2^(24-(d+1)):Nat):Int):=by
  rcases c1 with h|h<;>rw[h]<;>simp
 have f2:((k / 2:Nat):Int) *((2^(24-(d+1)):Nat):Int)=0 \/((k / 2:Nat):Int) *((2^(24-(d+1)):Nat):Int)=((2^(24-(d+1)):Nat):Int):=by
  rcases c2 with h|h<;>rw[h]<;>simp
 unfold bxC cA;rw[k1,k2,p'];rw[p']at *;generalize ((2^(24-(d+1)):Nat):Int)=S at *;generalize ((k % 2:Nat):Int)*S=u at *;generalize ((k / 2:Nat):Int)*S=v at *;generalize (A+j) *(2*S)=P at *;generalize (B+i) *(2*S)=Q at *
 constructor<;>dsimp only<;>omega
theorem Akp {cx cy d s:Nat}{A B:Int}(h:MkT cx cy d s A B){i j:Nat}(hi:i<s)(hj:j<s):(bxC A B d i j).ok=true:=by
 have:=(Ma (d:=d) (by have:=h.d10;omega) h.ha h.hb i j).2 ⟨by have:=h.ga;omega,by have:=h.gb;omega⟩
 exact(Z3 this).2.2
theorem A97 {A4:Int}(hm:(Be A4).toNat<=31){cx cy d s:Nat}{A B:Int}(h:MkT cx cy d s A B){Y:Nat->List Int}(hY:∀q,q<4->Y q=rowsOf s (stT (2*A +((q % 2:Nat):Int)*s) (2*B +((q / 2:Nat):Int)*s) (d+1) A4) s)
 {c:Nat} (hc:c<s*s) (hne:stT A B d A4 (c / s) (c % s)≠0):Qo Y s c=stT A B d A4 (c / s) (c % s):=by
 have s1:=h.s1;have s8:=h.s8;have d10:=h.d10;have hi:c / s<s:=(Atp s1).2 hc;have hj:c % s<s:=Ara _ s1;have aux:∀X Z:Nat,Z<2 ->(X*2+Z) % 2=Z /\(X*2+Z) / 2=X:=fun X Z h=>by omega
 have key:∀k,k<4->jm Y s c k=stT A B d A4 (c / s) (c % s):=fun k hk=>by
  obtain⟨q1,q2⟩:=Akl s1 s8 hc hk;unfold jm;rw[hY _ q1];have b1:(2 *(c / s)+k / 2) / s<2:=(Atp s1).2 (by omega)
  have b2:(2 *(c % s)+k % 2) / s<2:=(Atp s1).2 (by omega)
  have m1:jq s c k % 2=(2 *(c % s)+k % 2) / s:=(aux _ _ b2).1;have m2:jq s c k / 2=(2 *(c / s)+k / 2) / s:=(aux _ _ b2).2;rw[m1,m2];have:=A3a s (stT (2*A +(((2 *(c % s)+k % 2) / s:Nat):Int)*s) (2*B +(((2 *(c / s)+k / 2) / s:Nat):Int)*s) (d+1) A4) (i:=(2 *(c / s)+k / 2) % s) (j:=(2 *(c % s)+k % 2) % s) (Ara _ s1) (Ara _ s1)
  refine Eq.trans this ?_
  exact(Ae5 d10 hk).state (Akp h hi hj) hm hne
 unfold Qo;rw[key 0 (by omega),key 1 (by omega),key 2 (by omega),key 3 (by omega)]
 exact Apb ⟨rfl,rfl,rfl,rfl⟩
theorem A8z {A4:Int}{cx cy d s:Nat}{A B:Int}(hd:d<=9)(hs8:s<=8)(hA:Pt cx d A)(hB:Pt cy d B)(bA:A.natAbs<=4*2^d)(bB:B.natAbs<=4*2^d){q:Nat}(hq:q<4){t:Aj}(hg:Dq A4 t)(e1:t.cx=(Bj cx cy d s q).1)(e2:t.cy=(Bj cx cy d s q).2)(e3:t.deep=(d:Int)+1)(e4:t.size=s) :
 t.ys=rowsOf s (stT (2*A +((q % 2:Nat):Int)*s) (2*B +((q / 2:Nat):Int)*s) (d+1) A4) s:=by
 obtain⟨d',s',a,b,h1,h2,h3,h4,h5⟩:=hg;obtain rfl:d'=d+1:=by omega
 obtain rfl:s'=s:=by omega
 have hx2:2^d<=2^9:=Api (by decide) hd
 have px:=h3.px;have py:=h3.py;rw[e1]at px;rw[e2]at py;have f:=Zf (d:=d) (s:=s') (by omega) (by omega)
 have x2:=Xu (by omega) hA
 have y2:=Xu (by omega) hB
 have z:=A04 (d+1);have g1:=(F9 (by omega) x2 f.2 (by omega)).2
 have g2:=(F9 (by omega) y2 f.2 (by omega)).2
 have g3:=(F9 (by omega) x2 z (by omega)).2
 have g4:=(F9 (by omega) y2 z (by omega)).2
 rw[h5]
 rcases(by omega:q=0\/q=1\/q=2\/q=3)with rfl|rfl|rfl|rfl
 ·rw[G4 px x2,G4 py y2];simp
 ·rw[G4 px g1,G4 py g4];simp
 ·rw[G4 px g3,G4 py g2];simp
 ·rw[G4 px g1,G4 py g2];simp
end
section
open Go.RowKit Flo
theorem cnt_mono {v:Int}:∀{xs ys:List Int},xs.length=ys.length ->(∀(k:Nat),xs[k]?=some v->ys[k]?=some v)->cnt v xs<=cnt v ys
 | [],[],_,_=>Ap0 _
 | [],_ :: _,h,_=>by simp at h
 | _ :: _,[],h,_=>by simp at h
 | x :: xs,y :: ys,hl,h=>by
   have ih:=cnt_mono (v:=v) (xs:=xs) (ys:=ys) (by simpa using hl) (fun k hk=>h (k+1) hk)
   have h0:=h 0;rw[Jj,Jj]
   by_cases hx:x=v
   ·have hy:y=v:=by simpa using h0 (by simp[hx])
    rw[Apb hx,Apb hy]
    omega
   ·rw[Ap8 hx]
    omega
theorem Dq.tot {A4:Int}{t:Aj}(h:Dq A4 t){s:Nat}(hs:t.size=s):cnt 1 t.ys+cnt (-1) t.ys+cnt 0 t.ys=s*s:=by
 obtain⟨d,s',a,b,h1,h2,h3,h4,h5⟩:=h;obtain rfl:s=s':=by omega
 rw[A8o (fun y hy=>?_),h5,Dj]
 rw[h5]at hy;obtain⟨i,j,rfl⟩:=Nv hy
 exact A6a _ _
theorem A7d (A4:Int){cx cy:Nat}{deep size:Int}(h:Wi cx cy deep size):∃t:Aj,Dq A4 t/\t.cx=cx/\t.cy=cy/\t.deep=deep/\t.size=size:=by
 obtain⟨d,s,a,b,h1,h2,h3⟩:=h
 exact⟨⟨cx,cy,deep,size,0,0,0,0,rowsOf s (smT cx cy d A4) s,rowsOf s (stT a b d A4) s⟩,⟨d,s,a,b,h1,h2,h3,rfl,rfl⟩,rfl,rfl,rfl,rfl⟩
theorem Z9 {A4:Int}(hm:(Be A4).toNat<=31){t:Aj}(h:Dq A4 t){d s:Nat}(hd:t.deep=d)(hs:t.size=s){U:Nat->Aj}
 (hU:∀q,q<4->Dq A4 (U q) /\(U q).cx=(Bj t.cx t.cy d s q).1 /\(U q).cy=(Bj t.cx t.cy d s q).2 /\(U q).deep=(d:Int)+1 /\(U q).size=s) {v:Int} (hv:v≠0) :
 4*cnt v t.ys<=cnt v (U 0).ys+cnt v (U 1).ys+cnt v (U 2).ys+cnt v (U 3).ys:=by
 obtain⟨d',s',a,b,h1,h2,h3,h4,h5⟩:=h;obtain rfl:d=d':=by omega
 obtain rfl:s=s':=by omega
 have hd9:d<=9:=by
  obtain⟨⟨d2,s2,a2,b2,g1,g2,g3,-,-⟩,-,-,e3,-⟩:=hU 0 (by omega)
  have:=g3.d10
  omega
 have hY:∀q,q<4 ->(fun q=>(U q).ys) q=rowsOf s (stT (2*a +((q % 2:Nat):Int)*s) (2*b +((q / 2:Nat):Int)*s) (d+1) A4) s:=fun q hq=>by
  obtain⟨u1,u2,u3,u4,u5⟩:=hU q hq
  exact A8z hd9 h3.s8 h3.px h3.py h3.ha h3.hb hq u1 u2 u3 u4 u5
 have hj:=Ac9 (Y:=fun q=>(U q).ys) hv h3.s8 fun q hq=>by
  have e:=hY q hq;dsimp only at e ⊢;rw[e,Dj]
 have hc:cnt v t.ys<=cnt v (jys (fun q=>(U q).ys) s):=by
  refine cnt_mono (by rw[Aff,h5,Dj]) fun k hk=>?_
  have hk':k<s*s:=by
   have:=(Apg.1 hk).1
   rwa [h5,Dj]at this
  rw[h5,A5m s _ hk']at hk;have hk:=Aqp hk;rw[Aht _ hk',A97 hm h3 hY hk' (by rw[hk];exact hv),hk]
 omega
end
section
def Ho (c:UInt8):Bool:=decide (48<=c.toNat) && decide (c.toNat<=51)
def Di (s:ByteArray)(A4:Nat):Bool:=decide (s.size<=A4) && s.data.toList.all Ho
def Db:List ByteArray->Nat->Option Nat
 | [],d=>some d
 | s :: r,d=>if Di s 10 then Db r (max d s.size)else none
def Cj (ss:List ByteArray)(m:Nat):Option Nat:=if ss.length=0 then none else if m=ss.length then Db ss 0 else none
theorem A9h {s:ByteArray}{A4:Nat}(h:s.size<=A4)(hd:∀j,j<s.size->Ho (s.data.toList.getD j 0)=true):Di s A4=true:=by
 simp only[Di,Ap7,Apm,Art]
 refine⟨h,fun c hc=>?_⟩
 obtain⟨i,hi,rfl⟩:=Auu hc;have hi':i<s.size:=by rw[<-He];exact hi
 have:=hd i hi'
 rwa [Asz,Apd hi]at this
theorem A2w {s:ByteArray}{A4:Nat}(h:A4<s.size):Di s A4=false:=by
 have:decide (s.size<=A4)=false:=by simp;omega
 simp only[Di,this,Bool.false_and]
theorem U3 {s:ByteArray}{A4 j:Nat}(hj:j<s.size)(hd:Ho (s.data.toList.getD j 0)=false):Di s A4=false:=by
 have hi:j<s.data.toList.length:=by rw[He];exact hj
 rw[Asz,Apd hi]at hd
 have:s.data.toList.all Ho=false:=by
  rw[List.all_eq_false]
  exact⟨_,Aui hi,by simpa using hd⟩
 simp only[Di,this,Bool.and_false]
theorem Tf {s:ByteArray}{r:List ByteArray}{d:Nat}(h:Di s 10=true):Db (s :: r) d=Db r (max d s.size):=by
 simp only[Db,h,Ats]
theorem A4p {s:ByteArray}{r:List ByteArray}{d:Nat}(h:Di s 10=false):Db (s :: r) d=none:=by
 simp only[Db,h,Aqb,At6]
end
section
def Bv:List UInt8->Nat->Nat
 | [],n=>n
 | c :: r,n=>Bv r (4*n +(c.toNat-48))
def Cd (n:Nat):Nat:=4^(10-n)
theorem Hb (n:Nat):0<Cd n:=Nat.pow_pos (by omega)
abbrev Path:=List UInt8
def okP (s:Path):Prop:=s.length<=10/\∀c∈s,48<=c.toNat/\c.toNat<=51
theorem Lp:∀(s t:Path) (n:Nat),Bv (s++t) n=Bv t (Bv s n)
 | [],_,_=>rfl
 | _ :: s,t,_=>Lp s t _
theorem Gk:∀(s:Path) (n:Nat),Bv s n=n*4^s.length+Bv s 0
 | [],_=>by simp[Bv]
 | c :: s,n=>by
   unfold Bv;rw[Gk s (4*n+_),Gk s (4*0+_),Aqx,Ark];generalize 4^s.length=q;generalize c.toNat-48=d;rw[Ar1,Ar1];have:n *(q*4)=4*n*q:=by rw[Apr q 4,<-Apo,Apr n 4]
   omega
theorem S5:∀(s:Path),(∀c∈s,48<=c.toNat/\c.toNat<=51)->Bv s 0<4^s.length
 | [],_=>by simp[Bv]
 | c :: s,h=>by
   have h1:=S5 s (fun c hc=>h c (by simp[hc]))
   have h2:=h c (by simp)
   unfold Bv;rw[Gk,Aqx,Ark];generalize 4^s.length=q at *;have:(4*0 +(c.toNat-48))*q<=3*q:=Ap2 q (by omega)
   omega
theorem A2s:∀(s t:Path),s.length=t.length ->(∀c∈s,48<=c.toNat/\c.toNat<=51) ->(∀c∈t,48<=c.toNat/\c.toNat<=51)->Bv s 0=Bv t 0->s=t
 | [],[],_,_,_,_=>rfl
 | [],_ :: _,h,_,_,_=>by simp at h
 | _ :: _,[],h,_,_,_=>by simp at h
 | c :: s,d :: t,h,hs,ht,he=>by
   have hl:s.length=t.length:=by simpa using h
   have h1:=S5 s (fun c hc=>hs c (by simp[hc]))
   have h2:=S5 t (fun c hc=>ht c (by simp[hc]))
   have h3:=hs c (by simp)
   have h4:=ht d (by simp)
   unfold Bv at he;rw[Gk s,Gk t,<-hl]at he;rw[<-hl]at h2;have hq:0<4^s.length:=Nat.pow_pos (by omega)
   generalize 4^s.length=q at *
   have hcd:4*0 +(c.toNat-48)=4*0 +(d.toNat-48):=by
    have e1:((4*0 +(c.toNat-48))*q+Bv s 0) / q=4*0 +(c.toNat-48):=by rw[Apr,Aul hq,As5 h1];rfl
    have e2:((4*0 +(d.toNat-48))*q+Bv t 0) / q=4*0 +(d.toNat-48):=by rw[Apr,Aul hq,As5 h2];rfl
    rw[<-e1,<-e2,he]
   have hc:c=d:=UInt8.toNat_inj.1 (by omega)
   subst hc;rw[A2s s t hl (fun c hc=>hs c (by simp[hc])) (fun c hc=>ht c (by simp[hc])) (by omega)]
def Ph (s:Path):Nat:=Bv s 0*Cd s.length
def sumTo:List Path->Nat->Option Nat
 | [],x=>some x
 | s :: r,x=>if Ph s=x then sumTo r (x+Cd s.length)else none
def sp (tgt:Nat):List Path->Nat->Option (List Path)
 | [],x=>if x=tgt then some []else none
 | s :: r,x=>if x=tgt then some (s :: r)else if Ph s=x then sp tgt r (x+Cd s.length)else none
theorem Ah2 (tgt:Nat)(ss:List Path):sp tgt ss tgt=some ss:=by
 cases ss<;>simp[sp]
theorem A7v (tgt:Nat):∀(ss:List Path) (x:Nat),tgt<x->sp tgt ss x=none
 | [],x,h=>by simp[sp];omega
 | s :: r,x,h=>by
   unfold sp;rw[Ap8 (by omega),A7v tgt r _ (by omega)]
   simp
theorem A3x:∀(ss:List Path) (x y:Nat),sumTo ss x=some y->x<=y /\(ss≠[]->x<y)
 | [],x,y,h=>by simp[sumTo]at h;simp[h]
 | s :: r,x,y,h=>by
   unfold sumTo at h
   split at h
   ·have:=(A3x r _ y h).1;have:=Hb s.length
    exact⟨by omega,fun _=>by omega⟩
   ·cases h
theorem Ado (tgt:Nat):∀(ss:List Path) (x:Nat),sp tgt ss x=some []↔sumTo ss x=some tgt
 | [],x=>by simp[sp,sumTo]
 | s :: r,x=>by
   unfold sp
   by_cases h:x=tgt
   ·rw[Apb h]
    constructor
    ·intro h;simp at h
    ·intro h2;exact absurd ((A3x _ _ _ h2).2 (by simp)) (by omega)
   ·rw[Ap8 h];unfold sumTo
    by_cases h3:Ph s=x
    ·rw[Apb h3,Apb h3];exact Ado tgt r _
    ·rw[Ap8 h3,Ap8 h3];simp
theorem Uy {a b:Nat}(h:a<=b):Cd b ∣ Cd a:=Nat.pow_dvd_pow 4 (by omega)
theorem Mw {n:Nat}(h:n<10):Cd n=4*Cd (n+1):=by
 unfold Cd;rw[show 10-n=(10-(n+1))+1 by omega,Ark,Apr]
theorem A1p {d x b:Nat}(hx:d ∣ x)(hb:d ∣ b)(h:x<b):x+d<=b:=by
 obtain⟨m,rfl⟩:=hx;obtain⟨n,rfl⟩:=hb;have:m<n:=Nat.lt_of_mul_lt_mul_left h;have:d *(m+1)<=d*n:=Aty d this;rw[Nat.mul_succ]at this
 exact this
theorem Ag5 (n tgt b:Nat)(ht:Cd n ∣ tgt)(hb:Cd (n+1) ∣ b)(hbt:b<=tgt) :
 ∀(ss:List Path) (x:Nat),x<=b->tgt<=x+Cd n ->(x<b->¬Cd n ∣ x\/∀s r,ss=s :: r->n+1<=s.length)->sp tgt ss x=(sp b ss x).bind fun r=>sp tgt r b:=by
 intro ss
 induction ss with
 | nil =>
   intro x hx _ _
   by_cases h:x=b
   ·subst h;simp[sp]
   ·have:x≠tgt:=by omega
    simp[sp,h,this]
 | cons s r ih =>
   intro x hx hx2 hc
   by_cases h:x=b
   ·subst h;rw[Ah2];rfl
   ·have hxt:x≠tgt:=by omega
    have hlt:x<b:=by omega
    show(if x=tgt then some (s :: r)else if Ph s=x then sp tgt r (x+Cd s.length)else none)=_
    rw[Ap8 hxt]
    show _=(if x=b then some (s :: r)else if Ph s=x then sp b r (x+Cd s.length)else none).bind _
    rw[Ap8 h]
    by_cases hs:Ph s=x
    ·rw[Apb hs,Apb hs];have hdx:Cd s.length ∣ x:=⟨Bv s 0,by rw[<-hs,Ph,Apr]⟩
     have hlen:n+1<=s.length:=by
      rcases hc hlt with h1|h1
      ·rcases Asp n s.length with h2|h2
       ·exact h2
       ·exact absurd (Nat.dvd_trans (Uy h2) hdx) h1
      ·exact h1 s r rfl
     have hstep:x+Cd s.length<=b:=A1p hdx (Nat.dvd_trans (Uy hlen) hb) hlt;have hp:=Hb s.length
     refine ih _ hstep (by omega) (fun hlt2=>.inl fun hd=>?_)
     have:=A1p hd ht (by omega)
     omega
    ·rw[Ap8 hs,Ap8 hs];rfl
def chain (f:List Path->Path->Option (List Path))(p:Path):List UInt8->List Path->Option (List Path)
 | [],cs=>some cs
 | d :: ds,cs=>(f cs (p++[d])).bind (chain f p ds)
def Br:Nat->List Path->Path->Option (List Path)
 | _,[],_=>none
 | 0,s :: r,p=>if p <+: s then if s=p then some r else none else none
 | m+1,s :: r,p=>if p <+: s then if s=p then some r else chain (Br m) p [48,49,50,51] (s :: r)else none
theorem Sa {tgt:Nat}:∀{ss:List Path} {x:Nat} {r:List Path},sp tgt ss x=some r->∀s∈r,s∈ss
 | [],x,r,h=>by unfold sp at h;split at h<;>simp at h;subst h;simp
 | s :: q,x,r,h=>by
   unfold sp at h
   split at h
   ·simp at h;subst h;exact fun _ h=>h
   ·split at h
    ·intro t ht;exact Atv _ (Sa h t ht)
    ·cases h
theorem Ld (p:Path)(d:UInt8):Ph (p++[d])=(4*Bv p 0 +(d.toNat-48))*Cd (p.length+1):=by
 unfold Ph;rw[Lp];simp[Bv]
theorem Yk:∀(m:Nat) (ss:List Path) (p:Path),(∀s∈ss,okP s)->okP p->10<=p.length+m->Br m ss p=sp (Ph p+Cd p.length) ss (Ph p)
 | m,[],p,_,_,_=>by
   have:=Hb p.length;have h:¬Ph p=Ph p+Cd p.length:=by omega
   cases m<;>simp[Br,sp]<;>omega
 | m,s :: r,p,hs,hp,hm=>by
   have hw:=Hb p.length;have hso:=hs s (by simp)
   by_cases hpre:p <+: s
   ·by_cases heq:s=p
    ·have:Br m (s :: r) p=some r:=by cases m<;>simp[Br,heq]
     rw[this,heq];unfold sp;rw[Ap8 (by omega),Apb rfl,Ah2]
    ·have hlen:p.length<s.length:=by
      have h1:=hpre.length_le
      rcases Nat.lt_or_eq_of_le h1 with h2|h2
      ·exact h2
      ·exact absurd (hpre.eq_of_length h2).symm heq
     have hp10:p.length<10:=by have:=hso.1;omega
     cases m with
     | zero=>omega
     | succ m =>
       have ih:∀(qs:List Path) (d:UInt8),48<=d.toNat->d.toNat<=51 ->(∀s∈qs,okP s)->Br m qs (p++[d])=sp ((4*Bv p 0 +(d.toNat-48)+1)*Cd (p.length+1)) qs ((4*Bv p 0 +(d.toNat-48))*Cd (p.length+1)):=by
        intro qs d h1 h2 hq
        rw[Yk m qs (p++[d]) hq ⟨by simp;omega,fun c hc=>by
         rcases Aq9.1 hc with h|h
         ·exact hp.2 c h
         ·simp at h;subst h;exact⟨h1,h2⟩⟩ (by simp;omega)]
        rw[Ld p d,Arb (4*Bv p 0 +(d.toNat-48)),show(p++[d]).length=p.length+1 by simp]
       show(if p <+: s then if s=p then some r else chain (Br m) p [48,49,50,51] (s :: r)else none)=_
       rw[Apb hpre,Ap8 heq];have hws:=Mw hp10
       have ea:Ph p=(4*Bv p 0)*Cd (p.length+1):=by
        unfold Ph;rw[hws,<-Apo,Apr (Bv p 0) 4]
       have eb:Ph p+Cd p.length=(4*Bv p 0+4)*Cd (p.length+1):=by rw[ea,hws,Ar1]
       have hdt:Cd p.length ∣ (4*Bv p 0+4)*Cd (p.length+1):=⟨Bv p 0+1,by rw[hws,<-Nat.mul_succ,Ar8]⟩
       have comp:∀(qs:List Path) (i:Nat),i<4 ->(∀s r,qs=s :: r->i=0->p.length+1<=s.length) ->(i=0->qs≠[]) ->
        sp ((4*Bv p 0+4)*Cd (p.length+1)) qs ((4*Bv p 0+i)*Cd (p.length+1))=(sp ((4*Bv p 0 +(i+1))*Cd (p.length+1)) qs ((4*Bv p 0+i)*Cd (p.length+1))).bind fun r=>sp ((4*Bv p 0+4)*Cd (p.length+1)) r ((4*Bv p 0 +(i+1))*Cd (p.length+1)):=by
        intro qs i hi hq _
        refine Ag5 p.length _ _ hdt (Nat.dvd_mul_left _ _) (Ap2 _ (by omega)) qs _ (Ap2 _ (by omega)) ?_ (fun _=>?_)
        ·rw[hws,<-Ar1];exact Ap2 _ (by omega)
        ·by_cases h0:i=0
         ·exact .inr fun s r e=>hq s r e h0
         ·left
          rintro⟨k,hk⟩;rw[hws,Ar8]at hk;have:=Au4 (Hb (p.length+1)) hk
          omega
       rw[eb,ea];have step0:=comp (s :: r) 0 (by omega) (fun s' r' e _=>by simp at e;rw[<-e.1];exact hlen) (fun _=>by simp)
       simp only[Asf]at step0;rw[step0];unfold chain;rw[ih (s :: r) 48 (by decide) (by decide) hs]
       show(sp ((4*Bv p 0+0+1)*_) (s :: r) ((4*Bv p 0+0)*_)).bind _=_
       simp only[Asf,Aqr]
       cases h1:sp ((4*Bv p 0+1)*Cd (p.length+1)) (s :: r) (4*Bv p 0*Cd (p.length+1))with
       | none=>rfl
       | some r1 =>
         have k1:∀t∈r1,okP t:=fun t ht=>hs t (Sa h1 t ht)
         simp only[At7];rw[comp r1 1 (by omega) (fun _ _ _ h=>absurd h (by omega)) (fun h=>absurd h (by omega))]
         unfold chain;rw[ih r1 49 (by decide) (by decide) k1]
         show(sp ((4*Bv p 0+1+1)*_) r1 ((4*Bv p 0+1)*_)).bind _=_
         cases h2:sp ((4*Bv p 0+1+1)*Cd (p.length+1)) r1 ((4*Bv p 0+1)*Cd (p.length+1))with
         | none=>rfl
         | some r2 =>
           have k2:∀t∈r2,okP t:=fun t ht=>k1 t (Sa h2 t ht)
           simp only[At7]
           show _=sp _ r2 ((4*Bv p 0+2)*_)
           rw[comp r2 2 (by omega) (fun _ _ _ h=>absurd h (by omega)) (fun h=>absurd h (by omega))]
           unfold chain;rw[ih r2 50 (by decide) (by decide) k2]
           show(sp ((4*Bv p 0+2+1)*_) r2 ((4*Bv p 0+2)*_)).bind _=_
           cases h3:sp ((4*Bv p 0+2+1)*Cd (p.length+1)) r2 ((4*Bv p 0+2)*Cd (p.length+1))with
           | none=>rfl
           | some r3 =>
             have k3:∀t∈r3,okP t:=fun t ht=>k2 t (Sa h3 t ht)
             simp only[At7];unfold chain;rw[ih r3 51 (by decide) (by decide) k3]
             show(sp ((4*Bv p 0+3+1)*_) r3 ((4*Bv p 0+3)*_)).bind _=sp _ r3 ((4*Bv p 0+3)*_)
             have hc:chain (Br m) p []=some:=by funext x;rfl
             rw[hc];simp
   ·have:Br m (s :: r) p=none:=by cases m<;>simp[Br,hpre]
    rw[this];unfold sp;rw[Ap8 (by omega)]
    by_cases hs1:Ph s=Ph p
    ·rw[Apb hs1]
     symm
     apply A7v
     rcases Asp s.length p.length with h|h
     ·have hp10:=hp.1;have h1:=Mw (n:=s.length) (by omega)
      have h2:Cd p.length<=Cd (s.length+1):=Nat.le_of_dvd (Hb _) (Uy h);have:=Hb (s.length+1)
      omega
     ·exfalso
      apply hpre
      have e:s=s.take p.length++s.drop p.length:=(Atq _ _).symm;have hl:(s.take p.length).length=p.length:=by simp;omega
      have hd:(s.drop p.length).length=s.length-p.length:=by simp
      have hlt:=S5 (s.drop p.length) (fun c hc=>hso.2 c (At2 hc))
      have hn:Bv s 0=Bv (s.take p.length) 0*4^(s.length-p.length)+Bv (s.drop p.length) 0:=by
       conv=>lhs;rw[e,Lp,Gk,hd]
      have hww:Cd p.length=4^(s.length-p.length)*Cd s.length:=by
       unfold Cd;rw[<-Apk]
       congr 1
       have:=hso.1
       omega
      unfold Ph at hs1;rw[hn,hww]at hs1;rw[hd]at hlt;have hws:=Hb s.length;rw[<-Apo]at hs1;have h5:=Au4 hws hs1;have hq:0<4^(s.length-p.length):=Nat.pow_pos (by omega)
      generalize 4^(s.length-p.length)=q at *
      have h6:Bv (s.take p.length) 0=Bv p 0:=by
       have e1:(Bv (s.take p.length) 0*q+Bv (s.drop p.length) 0) / q=Bv (s.take p.length) 0:=by rw[Apr,Aul hq,As5 hlt];rfl
       rw[h5,Nat.mul_div_cancel _ hq]at e1
       exact e1.symm
      have h7:=A2s _ p hl (fun c hc=>hso.2 c (At1 hc)) hp.2 h6
      rw[<-h7]
      exact List.take_prefix _ _
    ·rw[Ap8 hs1]
theorem A6l (ss:List Path)(h:∀s∈ss,okP s):Br 10 ss []=some []↔sumTo ss 0=some 1048576:=by
 rw[Yk 10 ss [] h ⟨by simp,by simp⟩ (by simp)]
 have e:Ph []=0:=rfl;have e2:Cd ([]:Path).length=1048576:=rfl;rw[e,e2,Aqr]
 exact Ado _ _ _
end
section
open Go.RowKit
theorem Abj {s:ByteArray}{j:Nat}(h:j<s.size):Ho (s.data.toList.getD j 0)=(decide (48<=s[j].toNat) && decide (s[j].toNat<=51)):=by
 rw[<-Aer s j h];rfl
theorem Ox (s:ByteArray)(hs:s.size<=1048576)(A4:Nat)(mi:Int)(hm:mi=A4)(w:World):Calls Vp.prog 25 #[.string s,.int .i64 mi] w fun e w'=>e=.returned (.bool (Di s A4))/\w=w':=by
 subst hm
 by_cases hlong:A4<s.size
 ·rw[A2w hlong]
  go_enter Vp.func25,Tryz.ntmps25
  go_wp2
  go_ret
  exact⟨rfl,rfl⟩
 ·have hle:s.size<=A4:=by omega
  go_enter Vp.func25,Tryz.ntmps25
  go_wp2
  go_loop [5,12] (fun _ i=>∃k:Nat,k<=s.size/\i=.int .i64 k/\Hid (∀j,j<k->Ho (s.data.toList.getD j 0)=true)) (fun _ i=>(s.size-intOf i).toNat)
  case atStart=>exact⟨0,by omega,rfl,fun j hj=>by omega⟩
  case round =>
   obtain⟨k,hk,rfl,HD⟩:=hrel
   by_cases hlt:k<s.size
   ·have hdg:=Abj hlt
    by_cases h1:s[k].toNat<48
    ·have HB:Hid (Di s A4=false):=U3 hlt (by rw[hdg];simp;omega)
     clear hdg
     go_wp2
     go_ret
     rw[HB.out]
     exact⟨rfl,rfl⟩
    ·by_cases h2:51<s[k].toNat
     ·have HB:Hid (Di s A4=false):=U3 hlt (by rw[hdg];simp;omega)
      clear hdg
      go_wp2
      go_ret
      rw[HB.out]
      exact⟨rfl,rfl⟩
     ·have HN:Hid (∀j,j<k+1->Ho (s.data.toList.getD j 0)=true):=by
       intro j hj
       by_cases e:j=k
       ·rw[e,hdg];simp;omega
       ·exact HD.out j (by omega)
      clear hdg
      go_wp2
      go_round
      case rel=>exact⟨k+1,by omega,by go_num,HN⟩
      case measure=>simp[intOf];omega
   ·have HP:Hid (Di s A4=true):=A9h hle (fun j hj=>HD.out j (by omega))
    go_wp2
    go_ret
    rw[HP.out]
    exact⟨rfl,rfl⟩
theorem Oj (a a2:Option Addr)(c m c2:Nat)(p q r:Int)(ss:List ByteArray)(hn:ss.length<=1048576)(hl:∀s∈ss,s.size<=1048576)(w:World)(hs:Sl w a (ss.map Value.string)) :
 Calls Vp.prog 28 #[.agg #[.slice a ss.length c,.slice a2 m c2,.int .i64 p,.int .i64 q,.int .i64 r]] w fun e w'=>e=.returned (.tuple #[.int .i64 ((Cj ss m).getD 0:Nat),.bool (Cj ss m).isSome])/\Below w.heap.size w w':=by
 have hs':=hs.alloc (.cells #[.slice a ss.length c,.slice a2 m c2,.int .i64 p,.int .i64 q,.int .i64 r] 29);obtain⟨n,hnn⟩:∃n,ss.length=n:=⟨_,rfl⟩;rw[hnn]at hn hs' ⊢;have HN:=Aoy hnn;have HS:=Aoy hs';have HL:=Aoy hl;clear hnn hs hs' hl
 by_cases h0:n=0
 ·have HP:Hid (Cj ss m=none):=by show _=_;unfold Cj;rw[Apb (HN.out.trans h0)]
  have ht:((n:Int) == 0)=true:=by simp;omega
  clear h0
  go_enter Vp.func28,Tryz.ntmps28
  go_wp2
  go_ret2
  rw[HP.out]
  exact⟨rfl,(Aph _ _).alloc (Ap0 _) _⟩
 ·have ht:((n:Int) == 0)=false:=by simp;omega
  by_cases hmn:m=n
  ·have HP:Hid (Cj ss m=Db ss 0):=by show _=_;unfold Cj;rw[Ap8 (by rw[HN.out];exact h0),Apb (by rw[HN.out];exact hmn)]
   have ht2:((m:Int) != n)=false:=by simp;omega
   clear hmn
   go_enter Vp.func28,Tryz.ntmps28
   go_wp2
   go_loop [4,6,23] (fun d _ i=>∃k x:Nat,k<=n/\i=.int .i64 k/\d=.int .i64 x/\x<=1048576/\Hid (Db (ss.drop k) x=Db ss 0)) (fun _ _ i=>(n-intOf i).toNat)
   case atStart=>exact⟨0,0,by omega,rfl,rfl,by omega,rfl⟩
   case round =>
    obtain⟨k,x,hk,rfl,rfl,hx1,HE⟩:=hrel
    by_cases hlt:k<n
    ·have hx:(ss.map Value.string)[k]?=some (Value.string (ss[k]'(by rw[HN.out];exact hlt))):=by
      rw[Apv,Apd (by rw[HN.out];exact hlt)];rfl
     obtain⟨b,off,rfl,hc⟩:=HS.out.at hx;have hsz:=HL.out _ (Aui (by rw[HN.out];exact hlt):ss[k]'(by rw[HN.out];exact hlt)∈ss)
     have HD:Hid (ss.drop k=ss[k]'(by rw[HN.out];exact hlt) :: ss.drop (k+1)):=List.drop_eq_getElem_cons _
     clear hx;generalize ss[k]'(by rw[HN.out];exact hlt)=s at *
     cases hok:Di s 10 with
     | false =>
       have HR:Hid (Db ss 0=none):=by show _=_;rw[<-HE.out,HD.out,A4p hok]
       go_wp2_with (go_at_call 25;refine(Ox s hsz 10 10 rfl _).mono ?_;rintro e w' ⟨rfl,rfl⟩)
       go_ret2
       rw[HP.out,HR.out]
       exact⟨rfl,(Aph _ _).alloc (Ap0 _) _⟩
     | true =>
       have HR:Hid (Db (ss.drop (k+1)) (max x s.size)=Db ss 0):=by show _=_;rw[<-HE.out,HD.out,Tf hok]
       have hmx:max x s.size<=1048576:=by omega
       go_wp2_with (go_at_call 25;refine(Ox s hsz 10 10 rfl _).mono ?_;rintro e w' ⟨rfl,rfl⟩)
       go_round
       case rel=>exact⟨k+1,max x s.size,by omega,by go_num,by go_num,hmx,HR⟩
       case measure=>simp[intOf];omega
    ·have HX:Hid (Db ss 0=some x):=by
      show _=_
      rw[<-HE.out,show k=ss.length by rw[HN.out];omega,List.drop_length];rfl
     go_wp2
     go_ret2
     rw[HP.out,HX.out]
     exact⟨rfl,(Aph _ _).alloc (Ap0 _) _⟩
  ·have HP:Hid (Cj ss m=none):=by show _=_;unfold Cj;rw[Ap8 (by rw[HN.out];exact h0),Ap8 (by rw[HN.out];exact hmn)]
   have ht2:((m:Int) != n)=true:=by simp;omega
   clear hmn
   go_enter Vp.func28,Tryz.ntmps28
   go_wp2
   go_ret2
   rw[HP.out]
   exact⟨rfl,(Aph _ _).alloc (Ap0 _) _⟩
end
end Go.Proofs.YtlfleicchbgcmaaGreat
