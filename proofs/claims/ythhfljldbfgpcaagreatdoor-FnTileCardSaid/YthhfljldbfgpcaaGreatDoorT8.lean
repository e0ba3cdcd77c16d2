/- Merged texts: FloS. -/
import Derived.Test.YthhfljldbfgpcaaGreatDoorT2
import Derived.Test.YthhfljldbfgpcaaGreatDoorT7
set_option linter.all false
section
namespace Go.Proofs.YthhfljldbfgpcaaGreatDoor.Flo
open Go.RowKit Ieee
def k776:Nat:=776
theorem k776_eq:k776=776:=rfl
def k298:Nat:=298
def k1100:Nat:=1100
theorem k1100_eq:k1100=1100:=rfl
theorem rv_mono (f:Format) {r q:Nat} (h:r ≤ q):rv f r ≤ rv f q:=by
 have m1:=rm_lt f r
 have hb:=binade_pos f
 have hle:re f r ≤ re f q:=by
   unfold re
   have:=Nat.div_le_div_right (c:=f.binade) h
   omega
 rcases Nat.eq_or_lt_of_le hle with e | hlt
 · have:rm f r ≤ rm f q:=by unfold rm; rw [← e]; omega
   unfold rv; rw [← e]; exact Nat.mul_le_mul_right _ this
 · have hg:=rm_ge f q (by omega)
   unfold rv
   have e1:rm f r * 2 ^ re f r ≤ (2 * f.binade) * 2 ^ re f r:=Nat.mul_le_mul_right _ (Nat.le_of_lt m1)
   have e2:(2 * f.binade) * 2 ^ re f r=f.binade * 2 ^ (re f r + 1):=by
     rw [Nat.pow_succ,Nat.mul_comm 2 f.binade,Nat.mul_assoc,Nat.mul_comm 2]
   have e3:f.binade * 2 ^ (re f r + 1) ≤ f.binade * 2 ^ re f q:=Nat.mul_le_mul_left _ (Nat.pow_le_pow_right (by omega) hlt)
   have e4:f.binade * 2 ^ re f q ≤ rm f q * 2 ^ re f q:=Nat.mul_le_mul_right _ hg
   omega
theorem nearest_bd {f:Format} {s:Bool} {mag:Nat} {place:Int} {r a b:Nat} (hr:r < f.infRung) (hp:place - f.leastPlace=(a:Int) - b) (h:mag * 2 ^ a ≤ rv f r * 2 ^ b) :
   Val f (f.nearest s mag place) (iv f (f.nearest s mag place)) ∧ (iv f (f.nearest s mag place)).natAbs ≤ rv f r:=by
 have h1:=rnd_le (neg:=s) hp h
 have hw:=iv_word f s (rnd f s mag place) (by omega)
 refine ⟨⟨Format.nearest_lt _ _ _ _,?_,rfl⟩,?_⟩
 · rw [nearest_eq]; exact hw.1
 · rw [nearest_eq,hw.2,natAbs_sign]; exact rv_mono f h1
theorem sum_bd {f:Format} {s t:Bool} {m n i j r:Nat} {a b:Int} (hi:signed s m i=a) (hj:signed t n j=b) (hr:r < f.infRung) (h:(a + b).natAbs ≤ rv f r) :
   ∃ z,((Datum.number s m (f.leastPlace + i)).sum (Datum.number t n (f.leastPlace + j))).map f.write=some z ∧ Val f z (iv f z) ∧ (iv f z).natAbs ≤ rv f r:=by
 simp only [Datum.sum,Option.map_some,Format.write]
 refine ⟨_,rfl,?_⟩
 obtain ⟨c,hc⟩:∃ c:Nat,min (f.leastPlace + (i:Int)) (f.leastPlace + (j:Int))=f.leastPlace + c:=⟨min i j,by omega⟩
 rw [hc]
 obtain ⟨i',hi'⟩:∃ i',i=i' + c:=⟨i - c,by omega⟩
 obtain ⟨j',hj'⟩:∃ j',j=j' + c:=⟨j - c,by omega⟩
 have e1:(f.leastPlace + (i:Int) - (f.leastPlace + c)).toNat=i':=by omega
 have e2:(f.leastPlace + (j:Int) - (f.leastPlace + c)).toNat=j':=by omega
 rw [e1,e2]
 rw [hi',signed_scale] at hi
 rw [hj',signed_scale] at hj
 generalize signed s m i'=p at *
 generalize signed t n j'=q at *
 have hsum:(p + q) * (2 ^ c:Nat)=a + b:=by rw [Int.add_mul,hi,hj]
 refine nearest_bd (a:=c) (b:=0) hr (by omega) ?_
 rw [← hsum,Int.natAbs_mul,Int.natAbs_natCast] at h
 rw [Nat.pow_zero,Nat.mul_one]
 exact h
theorem sub_bd {f:Format} {x y r:Nat} {a b:Int} (hx:Val f x a) (hy:Val f y b) (hr:r < f.infRung) (h:(a - b).natAbs ≤ rv f r):∃ z,f.sub x y=some z ∧ Val f z (iv f z) ∧ (iv f z).natAbs ≤ rv f r:=by
 unfold Format.sub
 rw [read_fin hx.fin,read_fin hy.fin]
 have hj:signed (!sgn f y) (rm f (rung f y)) (re f (rung f y))=-b:=by rw [signed_not,signed_iv,hy.iv]
 exact sum_bd ((signed_iv f x).trans hx.iv) hj hr h
theorem sum_ge {f:Format} {s t:Bool} {m n i j r:Nat} {a b:Int} (hi:signed s m i=a) (hj:signed t n j=b) (hr:r ≤ f.infRung) (hr0:0 < rv f r) (h:(rv f r:Int) ≤ a + b) :
   ∃ q,((Datum.number s m (f.leastPlace + i)).sum (Datum.number t n (f.leastPlace + j))).map f.write=some (f.word false q) ∧ r ≤ q ∧ q ≤ f.infRung:=by
 simp only [Datum.sum,Option.map_some,Format.write]
 obtain ⟨c,hc⟩:∃ c:Nat,min (f.leastPlace + (i:Int)) (f.leastPlace + (j:Int))=f.leastPlace + c:=⟨min i j,by omega⟩
 rw [hc]
 obtain ⟨i',hi'⟩:∃ i',i=i' + c:=⟨i - c,by omega⟩
 obtain ⟨j',hj'⟩:∃ j',j=j' + c:=⟨j - c,by omega⟩
 have e1:(f.leastPlace + (i:Int) - (f.leastPlace + c)).toNat=i':=by omega
 have e2:(f.leastPlace + (j:Int) - (f.leastPlace + c)).toNat=j':=by omega
 rw [e1,e2]
 rw [hi',signed_scale] at hi
 rw [hj',signed_scale] at hj
 generalize signed s m i'=p at *
 generalize signed t n j'=q at *
 have hsum:(p + q) * (2 ^ c:Nat)=a + b:=by rw [Int.add_mul,hi,hj]
 have hp:(0:Int) < (2 ^ c:Nat):=by have:=Nat.two_pow_pos c; omega
 have hpos:0 < p + q:=by
   rcases Int.lt_or_le 0 (p + q) with h2 | h2
   · exact h2
   · have:=Int.mul_nonpos_of_nonpos_of_nonneg h2 (Int.le_of_lt hp); omega
 have hs:(if p + q=0 then s && t else decide (p + q < 0))=false:=by
   rw [if_neg (by omega)]; simp; omega
 rw [hs,nearest_eq]
 refine ⟨_,rfl,rnd_ge (a:=c) (b:=0) hr (by omega) ?_,rnd_le_inf _ _ _ _⟩
 rw [Nat.pow_zero,Nat.mul_one]
 have:(((p + q).natAbs * 2 ^ c:Nat):Int)=a + b:=by
   rw [← hsum,Int.natCast_mul]
   congr 1
   omega
 omega
def r5:Nat:=4617315517961601024
theorem five_rv:rv double r5=5 * 2 ^ u64:=by kernel_rfl
theorem five_fin:r5 < double.infRung:=by decide
theorem four64:Val double 4616189618054758400 ((4:Int) * (2 ^ u64:Nat)):=by
 refine ⟨by decide,by unfold fin; decide,?_⟩
 unfold iv
 rw [if_neg (by decide)]
 have:rv double (rung double 4616189618054758400)=4 * 2 ^ u64:=by kernel_rfl
 rw [this]; simp
def s5:Nat:=1084227584
theorem five_rv32:rv single s5=5 * 2 ^ u32:=by kernel_rfl
theorem five_fin32:s5 < single.infRung:=by decide
def le4 (n:Nat):Bool:=FloatKind.f64.format.order n 4616189618054758400 == some .lt || FloatKind.f64.format.order n 4616189618054758400 == some .eq
theorem le4_nan {n:Nat} (h:nan .f64 n=true):le4 n=false:=by unfold le4; rw [order_nan_left _ h]; rfl
theorem le4_inf:le4 9218868437227405312=false:=by decide
theorem add_over {x y:Nat} {a b:Int} (hx:Val double x a) (hy:Val double y b) (h:((5 * 2 ^ u64:Nat):Int) ≤ a + b):le4 (opC .add .f64 x y)=false:=by
 obtain ⟨q,hq,h1,h2⟩:=sum_ge (f:=double) (r:=r5) ((signed_iv double x).trans hx.iv) ((signed_iv double y).trans hy.iv) (Nat.le_of_lt five_fin) (by rw [five_rv]; have:=Nat.two_pow_pos u64; omega) (by rw [five_rv]; exact h)
 have e:floatBits .add .f64 x y=some (double.word false q):=by
   show (double.add x y)=_
   unfold Format.add
   rw [read_fin hx.fin,read_fin hy.fin]
   exact hq
 unfold opC
 rw [e,Option.getD_some]
 rcases Nat.eq_or_lt_of_le h2 with e2 | hlt
 · rw [e2]; decide
 · have hw:=iv_word double false q hlt
   have wlt:double.word false q < 2 ^ double.width:=by
     have h9:double.infRung < 2 ^ double.width:=by decide
     show q < _
     omega
   have hv:Val double (double.word false q) (rv double q:Int):=⟨wlt,hw.1,by rw [hw.2]; simp⟩
   have hm:=rv_mono double h1
   rw [five_rv] at hm
   have h4:=four64
   have hU:=Nat.two_pow_pos u64
   unfold le4
   rw [show (FloatKind.f64.format.order (double.word false q) 4616189618054758400 == some .lt)=_ from order_lt_val (k:=.f64) hv h4,show (FloatKind.f64.format.order (double.word false q) 4616189618054758400 == some .eq)=_ from order_eq_val (k:=.f64) hv h4]
   generalize (2:Nat) ^ u64=U at *
   simp
   omega
def widenC (x:Nat):Nat:=(floatToFloatBits .f32 x .f64).getD (nanW .f64)
def narrowC (x:Nat):Nat:=(floatToFloatBits .f64 x .f32).getD (nanW .f32)
theorem toFloat_nan {s k:FloatKind} {x:Nat} (hne:s ≠ k) (h:nan s x=true):floatToFloatBits s x k=none:=by
 unfold nan at h
 unfold floatToFloatBits
 rw [if_neg hne]
 cases hd:s.decode x <;> simp_all [Datum.isNaN]
theorem widenC_al {x y:Nat} (h:Al .f32 x y):widenC x=widenC y:=by
 rcases h with rfl | ⟨h1,h2⟩
 · rfl
 · unfold widenC; rw [toFloat_nan (by decide) h1,toFloat_nan (by decide) h2]
theorem narrowC_al {x y:Nat} (h:Al .f64 x y):narrowC x=narrowC y:=by
 rcases h with rfl | ⟨h1,h2⟩
 · rfl
 · unfold narrowC; rw [toFloat_nan (by decide) h1,toFloat_nan (by decide) h2]
def sqRe (x y:Nat):Nat:=opC .sub .f64 (opC .mul .f64 x x) (opC .mul .f64 y y)
def sqIm (x y:Nat):Nat:=opC .mul .f64 4611686018427387904 (opC .mul .f64 x y)
def normC (x y:Nat):Nat:=opC .add .f64 (opC .mul .f64 x x) (opC .mul .f64 y y)
theorem mul_inf {x:Nat} {s:Bool} (h:double.read x=.infinity s):opC .mul .f64 x x=9218868437227405312:=by
 have e:floatBits .mul .f64 x x=some 9218868437227405312:=by
   show double.mul x x=_
   unfold Format.mul
   rw [h]
   cases s <;> decide
 unfold opC; rw [e]; rfl
theorem inf_read:double.read 9218868437227405312=.infinity false:=by decide
theorem add_inf_left (y:Nat):le4 (opC .add .f64 9218868437227405312 y)=false:=by
 have e:floatBits .add .f64 9218868437227405312 y=some 9218868437227405312 ∨ floatBits .add .f64 9218868437227405312 y=none:=by
   show double.add _ y=_ ∨ double.add _ y=_
   unfold Format.add
   rw [inf_read]
   cases double.read y with
   | nan _ _ => right; rfl
   | infinity t => cases t <;> simp [Datum.sum] <;> decide
   | number _ _ _ => left; simp [Datum.sum]; decide
 unfold opC
 rcases e with e | e
 · rw [e]; exact le4_inf
 · rw [e]; exact le4_nan (nanW_nan _)
theorem add_inf_right (x:Nat):le4 (opC .add .f64 x 9218868437227405312)=false:=by
 have e:floatBits .add .f64 x 9218868437227405312=some 9218868437227405312 ∨ floatBits .add .f64 x 9218868437227405312=none:=by
   show double.add x _=_ ∨ double.add x _=_
   unfold Format.add
   rw [inf_read]
   cases double.read x with
   | nan _ _ => right; rfl
   | infinity t => cases t <;> simp [Datum.sum] <;> decide
   | number _ _ _ => left; simp [Datum.sum]; decide
 unfold opC
 rcases e with e | e
 · rw [e]; exact le4_inf
 · rw [e]; exact le4_nan (nanW_nan _)
theorem opC_nan_left {op:BinOp} {k:FloatKind} {x:Nat} (y:Nat) (h:nan k x=true):opC op k x y=nanW k:=by unfold opC; rw [floatBits_left y h]; rfl
theorem opC_nan_right {op:BinOp} {k:FloatKind} {y:Nat} (x:Nat) (h:nan k y=true):opC op k x y=nanW k:=by unfold opC; rw [floatBits_right x h]; rfl
theorem fin_left {x y:Nat} (h:le4 (normC (widenC x) (widenC y))=true):fin single x:=by
 rcases kinds single (by decide) x with hf | ⟨s,hi⟩ | ⟨s,t,hn⟩
 · exact hf
 · exfalso
   have e:widenC x=FloatKind.encode .f64 (.infinity s):=by
     unfold widenC floatToFloatBits
     rw [if_neg (by decide),show FloatKind.decode .f32 x=.infinity s from hi]; rfl
   have er:double.read (widenC x)=.infinity s:=by rw [e]; cases s <;> decide
   unfold normC at h
   rw [mul_inf er,add_inf_left] at h
   cases h
 · exfalso
   have hx:nan .f32 x=true:=by unfold nan; rw [show FloatKind.decode .f32 x=.nan s t from hn]; rfl
   have e:widenC x=nanW .f64:=by unfold widenC; rw [toFloat_nan (by decide) hx]; rfl
   unfold normC at h
   rw [e,opC_nan_left _ (nanW_nan _),opC_nan_left _ (nanW_nan _),le4_nan (nanW_nan _)] at h
   cases h
theorem fin_right {x y:Nat} (h:le4 (normC (widenC x) (widenC y))=true):fin single y:=by
 rcases kinds single (by decide) y with hf | ⟨s,hi⟩ | ⟨s,t,hn⟩
 · exact hf
 · exfalso
   have e:widenC y=FloatKind.encode .f64 (.infinity s):=by
     unfold widenC floatToFloatBits
     rw [if_neg (by decide),show FloatKind.decode .f32 y=.infinity s from hi]; rfl
   have er:double.read (widenC y)=.infinity s:=by rw [e]; cases s <;> decide
   unfold normC at h
   rw [mul_inf er,add_inf_right] at h
   cases h
 · exfalso
   have hx:nan .f32 y=true:=by unfold nan; rw [show FloatKind.decode .f32 y=.nan s t from hn]; rfl
   have e:widenC y=nanW .f64:=by unfold widenC; rw [toFloat_nan (by decide) hx]; rfl
   unfold normC at h
   rw [e,opC_nan_left (nanW .f64) (nanW_nan _),opC_nan_right _ (nanW_nan _),le4_nan (nanW_nan _)] at h
   cases h
theorem prod_val {x y X Y:Nat} {a b:Int} (hx:Val single x a) (hy:Val single y b) (hX:Val double X (a * (2 ^ wup:Nat))) (hY:Val double Y (b * (2 ^ wup:Nat))) :
   Val double (opC .mul .f64 X Y) (a * b * (2 ^ k776:Nat)):=by
 have dx:=val_digits hx
 have dy:=val_digits hy
 have rx:=re_lt (e:=254) hx.fin (by decide)
 have ry:=re_lt (e:=254) hy.fin (by decide)
 have mx:=rm_lt single (rung single x)
 have my:=rm_lt single (rung single y)
 rw [single_binade] at mx my
 generalize re single (rung single x)=ex at *
 generalize re single (rung single y)=ey at *
 generalize rm single (rung single x)=px at *
 generalize rm single (rung single y)=py at *
 have hm:px * py < 2 ^ 24 * 2 ^ 24:=Nat.mul_lt_mul'' (by omega) (by omega)
 have hr:Rep double (a * b * (2 ^ k776:Nat)):=by
   refine rep_of (m:=px * py) (e:=ex + ey + k776) ?_ ?_ ?_ ?_
   · rw [Int.natAbs_mul,Int.natAbs_mul,Int.natAbs_natCast,dx,dy,Nat.pow_add,Nat.pow_add]
     simp only [Nat.mul_assoc,Nat.mul_left_comm]
   · rw [double_binade]; omega
   · show 52 ≤ _; rw [k776_eq]; omega
   · rw [double_inf]; exact Nat.mul_le_mul_right _ (by rw [k776_eq]; omega)
 have hc:a * (2 ^ wup:Nat) * (b * (2 ^ wup:Nat))=a * b * (2 ^ k776:Nat) * (2 ^ u64:Nat):=by
   have e:((2 ^ wup:Nat):Int) * (2 ^ wup:Nat)=(2 ^ k776:Nat) * (2 ^ u64:Nat):=by
     rw [← Int.natCast_mul,← Int.natCast_mul,← Nat.pow_add,← Nat.pow_add,show wup + wup=k776 + u64 from rfl]
   have e2:a * (2 ^ wup:Nat) * (b * (2 ^ wup:Nat))=a * b * ((2 ^ wup:Nat) * (2 ^ wup:Nat)):=by
     rw [Int.mul_assoc,Int.mul_assoc,Int.mul_left_comm _ b]
   rw [e2,e,← Int.mul_assoc]
 obtain ⟨z,hz,hv⟩:=mul_val (f:=double) least64 hX hY hc hr
 have:opC .mul .f64 X Y=z:=by
   unfold opC
   rw [show floatBits .mul .f64 X Y=some z from hz]; rfl
 rw [this]; exact hv
theorem narrow_bd {z:Nat} (hz:Val double z (iv double z)) (hb:(iv double z).natAbs ≤ 5 * 2 ^ u64):∃ u,floatToFloatBits .f64 z .f32=some u:=by
 have hd:=val_digits hz
 have hn:=nearest_bd (f:=single) (s:=sgn double z) (mag:=rm double (rung double z)) (place:=double.leastPlace + re double (rung double z)) (r:=s5) (a:=re double (rung double z)) (b:=wup) five_fin32 (by rw [single_least,double_least,wup_eq]; omega) (by
   rw [five_rv32,← hd]
   have:5 * 2 ^ u32 * 2 ^ wup=5 * 2 ^ u64:=by rw [Nat.mul_assoc,← Nat.pow_add,show u32 + wup=u64 from rfl]
   rw [this]; exact hb)
 unfold floatToFloatBits
 rw [if_neg (by decide)]
 have hdec:FloatKind.decode .f64 z=.number (sgn double z) (rm double (rung double z)) (double.leastPlace + re double (rung double z)):=read_fin hz.fin
 rw [hdec]
 have hni:(FloatKind.decode .f32 (FloatKind.encode .f32 (.number (sgn double z) (rm double (rung double z)) (double.leastPlace + re double (rung double z))))).isInfinity=false:=val_inf (k:=.f32) hn.1
 simp only [hni]
 exact ⟨_,rfl⟩
theorem rep_two {p:Nat} {v:Int} (h:Val double p v) (hb:(2 * v).natAbs ≤ 5 * 2 ^ u64):Rep double (2 * v):=by
 have hd:=val_digits h
 have hm:=rm_lt double (rung double p)
 have hre:re double (rung double p) ≤ k1100:=by
   rcases Nat.lt_or_ge k1100 (re double (rung double p)) with h1 | h1
   · exfalso
     have hg:=rm_ge double (rung double p) (by omega)
     rw [double_binade] at hg
     have h2:2 ^ k1100 ≤ 2 ^ re double (rung double p):=Nat.pow_le_pow_right (by omega) (by omega)
     have h3:=Nat.mul_le_mul (show 1 ≤ rm double (rung double p) by omega) h2
     have h4:2 ^ k1100=2 ^ 26 * 2 ^ u64:=by rw [← Nat.pow_add,show 26 + u64=k1100 from rfl]
     rw [Int.natAbs_mul,hd] at hb
     rw [h4] at h3
     have hU:=Nat.two_pow_pos u64
     generalize (2:Nat) ^ u64=U at *
     simp at hb
     omega
   · exact h1
 refine rep_gen (m:=rm double (rung double p)) (e:=re double (rung double p) + 1) ?_ hm ?_
 · rw [Int.natAbs_mul,hd,Nat.pow_succ]
   show 2 * _=_
   rw [Nat.mul_comm 2,Nat.mul_assoc]
 · rw [double_inf]; exact Nat.mul_le_mul_right _ (by rw [k1100_eq] at hre; omega)
theorem sq_pos (a:Int):0 ≤ a * a:=by
 rcases Int.le_total 0 a with h | h
 · exact Int.mul_nonneg h h
 · exact Int.mul_nonneg_of_nonpos_of_nonpos h h
theorem step_ok {x y:Nat} (hx:x < 4294967296) (hy:y < 4294967296) (h:le4 (normC (widenC x) (widenC y))=true) :
   (∃ u,floatToFloatBits .f64 (sqRe (widenC x) (widenC y)) .f32=some u) ∧ (∃ v,floatToFloatBits .f64 (sqIm (widenC x) (widenC y)) .f32=some v):=by
 have vx:Val single x (iv single x):=⟨hx,fin_left h,rfl⟩
 have vy:Val single y (iv single y):=⟨hy,fin_right h,rfl⟩
 obtain ⟨X,eX,vX⟩:=widen_val vx
 obtain ⟨Y,eY,vY⟩:=widen_val vy
 have wx:widenC x=X:=by unfold widenC; rw [eX]; rfl
 have wy:widenC y=Y:=by unfold widenC; rw [eY]; rfl
 rw [wx,wy] at h ⊢
 have pxx:=prod_val vx vx vX vX
 have pyy:=prod_val vy vy vY vY
 have pxy:=prod_val vx vy vX vY
 have eK:(5 * 2 ^ u64:Nat)=5 * 2 ^ k298 * 2 ^ k776:=by rw [Nat.mul_assoc,← Nat.pow_add,show k298 + k776=u64 from rfl]
 have hsum:iv single x * iv single x + iv single y * iv single y < ((5 * 2 ^ k298:Nat):Int):=by
   rcases Int.lt_or_le (iv single x * iv single x + iv single y * iv single y) ((5 * 2 ^ k298:Nat):Int) with h1 | h1
   · exact h1
   · exfalso
     have:=add_over pxx pyy (by
       rw [eK,← Int.add_mul,Int.natCast_mul (5 * 2 ^ k298)]
       exact Int.mul_le_mul_of_nonneg_right h1 (Int.natCast_nonneg _))
     unfold normC at h
     rw [this] at h; cases h
 have sx:0 ≤ iv single x * iv single x:=sq_pos _
 have sy:0 ≤ iv single y * iv single y:=sq_pos _
 have h2:0 ≤ (iv single x - iv single y) * (iv single x - iv single y):=sq_pos _
 have h3:0 ≤ (iv single x + iv single y) * (iv single x + iv single y):=sq_pos _
 have e2:(iv single x - iv single y) * (iv single x - iv single y)=iv single x * iv single x + iv single y * iv single y - 2 * (iv single x * iv single y):=by
   rw [Int.sub_mul,Int.mul_sub,Int.mul_sub,Int.mul_comm (iv single y) (iv single x)]; omega
 have e3:(iv single x + iv single y) * (iv single x + iv single y)=iv single x * iv single x + iv single y * iv single y + 2 * (iv single x * iv single y):=by
   rw [Int.add_mul,Int.mul_add,Int.mul_add,Int.mul_comm (iv single y) (iv single x)]; omega
 rw [e2] at h2
 rw [e3] at h3
 clear e2 e3
 generalize iv single x * iv single x=A at *
 generalize iv single y * iv single y=B at *
 generalize iv single x * iv single y=C at *
 have bd:∀ T:Int,T.natAbs ≤ 5 * 2 ^ k298 → (T * (2 ^ k776:Nat)).natAbs ≤ 5 * 2 ^ u64:=by
   intro T hT
   rw [Int.natAbs_mul,Int.natAbs_natCast,eK]
   exact Nat.mul_le_mul_right _ hT
 constructor
 · obtain ⟨z,hz,hv,hb⟩:=sub_bd (r:=r5) pxx pyy five_fin (by
     rw [five_rv,← Int.sub_mul]
     exact bd _ (by generalize (2:Nat) ^ 298=U at *; omega))
   rw [five_rv] at hb
   have e:sqRe X Y=z:=by
     unfold sqRe opC
     unfold opC at hz
     rw [show floatBits .sub .f64 ((floatBits .mul .f64 X X).getD (nanW .f64)) ((floatBits .mul .f64 Y Y).getD (nanW .f64))=some z from hz]; rfl
   rw [e]
   exact narrow_bd hv hb
 · have two:Val double 4611686018427387904 ((2:Int) * (2 ^ u64:Nat)):=by
     refine ⟨by decide,by unfold fin; decide,?_⟩
     unfold iv
     rw [if_neg (by decide)]
     have:rv double (rung double 4611686018427387904)=2 * 2 ^ u64:=by kernel_rfl
     rw [this]; simp
   have hrep:Rep double (2 * (C * (2 ^ k776:Nat))):=by
     exact rep_two pxy (by have:=bd (2 * C) (by generalize (2:Nat) ^ 298=U at *; omega); rw [Int.mul_assoc] at this; exact this)
   obtain ⟨z,hz,hv⟩:=mul_val (f:=double) (c:=2 * (C * (2 ^ k776:Nat))) least64 two pxy (by rw [Int.mul_right_comm]) hrep
   have e:sqIm X Y=z:=by
     unfold sqIm
     show (floatBits .mul .f64 4611686018427387904 (opC .mul .f64 X Y)).getD _=z
     rw [show floatBits .mul .f64 4611686018427387904 (opC .mul .f64 X Y)=some z from hz]; rfl
   rw [e]
   refine narrow_bd (by rw [hv.iv]; exact hv) ?_
   rw [hv.iv]
   have:=bd (2 * C) (by generalize (2:Nat) ^ 298=U at *; omega)
   rw [Int.mul_assoc] at this
   exact this
theorem conv_al {P:Program} (s k:FloatKind) (x:Nat) (hne:s ≠ k) (hc:nan s x=true ∨ ∃ u,floatToFloatBits s x k=some u) (w:World) :
   ∃ z w',(Conv.floatToFloat s x k).run P w=.ok (.float k z) w' ∧ z < 2 ^ k.format.width ∧ Drw w w' ∧ Al k ((floatToFloatBits s x k).getD (nanW k)) z:=by
 cases hd:s.decode x with
 | nan sg f =>
   refine ⟨(Question.nanConv k x).cut (w.tape w.drawn (Question.nanConv k x)),w.drew,?_,?_,(Drw.refl w).drew,.inr ⟨?_,nanC_nan k x w⟩⟩
   · simp [Conv.floatToFloat,hne,hd]
     intro hf; simp [Question.forced] at hf
   · cases k
     · exact cut_conv32 _ _
     · show (_ % 2) * 2 ^ 63 + 0x7ff0000000000000 + 1 + (_ / 2) % (2 ^ 52 - 1) < 2 ^ 64
       omega
   · rw [toFloat_nan hne (by unfold nan; rw [hd]; rfl)]; exact nanW_nan k
 | infinity sg =>
   have e:floatToFloatBits s x k=some (k.encode (.infinity sg)):=by simp [floatToFloatBits,hne,hd]
   exact ⟨k.encode (.infinity sg),w,by simp [Conv.floatToFloat,hne,hd],Format.write_lt _ _,Drw.refl w,by rw [e]; exact .inl rfl⟩
 | number sg m e =>
   by_cases hi:(k.decode (k.encode (.number sg m e))).isInfinity=true
   · exfalso
     rcases hc with hc | ⟨u,hu⟩
     · unfold nan at hc; rw [hd] at hc; cases hc
     · simp [floatToFloatBits,hne,hd,hi] at hu
   · have e':floatToFloatBits s x k=some (k.encode (.number sg m e)):=by simp [floatToFloatBits,hne,hd,hi]
     exact ⟨k.encode (.number sg m e),w,by simp [Conv.floatToFloat,hne,hd,hi],Format.write_lt _ _,Drw.refl w,by rw [e']; exact .inl rfl⟩
theorem widen_ok {x:Nat} (hx:x < 4294967296):nan .f32 x=true ∨ ∃ u,floatToFloatBits .f32 x .f64=some u:=by
 cases h:nan .f32 x with
 | true => exact .inl rfl
 | false => obtain ⟨y,hy,_⟩:=widen_any (by rw [pow32]; exact hx) h; exact .inr ⟨y,hy⟩
theorem cwiden_al {P:Program} (src dst:TypeId) (hs:(P.underlying src).isSome=true) (hd:P.underlying dst=some (.complex .f64)) (x y:Nat) (hx:x < 4294967296) (hy:y < 4294967296) (w:World) :
   ∃ re im w',(convert src dst (.complex .f32 x y)).run P w=.ok (.complex .f64 re im) w' ∧ re < 18446744073709551616 ∧ im < 18446744073709551616 ∧ Drw w w' ∧ Al .f64 (widenC x) re ∧ Al .f64 (widenC y) im:=by
 obtain ⟨u,hs'⟩:=Option.isSome_iff_exists.1 hs
 obtain ⟨z,w1,h1,hz,d1,a1⟩:=conv_al (P:=P) .f32 .f64 x (by decide) (widen_ok hx) w
 obtain ⟨z2,w2,h2,hz2,d2,a2⟩:=conv_al (P:=P) .f32 .f64 y (by decide) (widen_ok hy) w1
 refine ⟨z,z2,w2,?_,hz,hz2,d1.trans d2,a1,a2⟩
 cases u <;> simp [convert,run_underlying hs',run_underlying hd,Conv.complexToComplex,h1,h2]
theorem cnarrow_al {P:Program} (src dst:TypeId) (hs:(P.underlying src).isSome=true) (hd:P.underlying dst=some (.complex .f32)) (x y:Nat) (hx:nan .f64 x=true ∨ ∃ u,floatToFloatBits .f64 x .f32=some u) (hy:nan .f64 y=true ∨ ∃ u,floatToFloatBits .f64 y .f32=some u) (w:World) :
   ∃ re im w',(convert src dst (.complex .f64 x y)).run P w=.ok (.complex .f32 re im) w' ∧ re < 4294967296 ∧ im < 4294967296 ∧ Drw w w' ∧ Al .f32 (narrowC x) re ∧ Al .f32 (narrowC y) im:=by
 obtain ⟨u,hs'⟩:=Option.isSome_iff_exists.1 hs
 obtain ⟨z,w1,h1,hz,d1,a1⟩:=conv_al (P:=P) .f64 .f32 x (by decide) hx w
 obtain ⟨z2,w2,h2,hz2,d2,a2⟩:=conv_al (P:=P) .f64 .f32 y (by decide) hy w1
 refine ⟨z,z2,w2,?_,by rw [← pow32]; exact hz,by rw [← pow32]; exact hz2,d1.trans d2,a1,a2⟩
 cases u <;> simp [convert,run_underlying hs',run_underlying hd,Conv.complexToComplex,h1,h2]
theorem Al.narrows {x y:Nat} (h:Al .f64 x y) (g:∃ u,floatToFloatBits .f64 x .f32=some u):nan .f64 y=true ∨ ∃ u,floatToFloatBits .f64 y .f32=some u:=by
 rcases h with rfl | ⟨_,h⟩
 · exact .inr g
 · exact .inl h
theorem csum_al {P:Program} (t:TypeId) (k:FloatKind) (a b c d:Nat) (w:World) :
   ∃ re im w',(binOp .add t (.complex k a b) (.complex k c d)).run P w=.ok (.complex k re im) w' ∧ re < 2 ^ k.format.width ∧ im < 2 ^ k.format.width ∧ Drw w w' ∧ Al k (opC .add k a c) re ∧ Al k (opC .add k b d) im:=by
 obtain ⟨x,w1,h1,hx,d1,a1⟩:=arith_al (P:=P) .add (by simp) t k a c w
 obtain ⟨y,w2,h2,hy,d2,a2⟩:=arith_al (P:=P) .add (by simp) t k b d w1
 refine ⟨x,y,w2,?_,hx,hy,d1.trans d2,a1,a2⟩
 have e1:(Op.floatArith .add k a c).run P w=.ok (.float k x) w1:=by simpa [binOp] using h1
 have e2:(Op.floatArith .add k b d).run P w1=.ok (.float k y) w2:=by simpa [binOp] using h2
 simp [binOp,Op.complexOp,Op.Complex.arith,e1,e2]
end Go.Proofs.YthhfljldbfgpcaaGreatDoor.Flo
end
