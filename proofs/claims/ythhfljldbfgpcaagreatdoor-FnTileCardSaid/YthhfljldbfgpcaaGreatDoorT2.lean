/- Merged texts: FloA, FloW, FloP, FloV, FloN, DyaP. -/
import Derived.Test.YthhfljldbfgpcaaGreatDoorT1
import Derived.Laws.BitsAllLaws
set_option linter.all false
section
namespace Go.Proofs.YthhfljldbfgpcaaGreatDoor.Flo
open Go.RowKit
theorem pow32:(2:Nat) ^ 32=4294967296:=by decide
theorem cut_lt32 (x y t:Nat):(Question.nanBits .f32 x y).cut t < 2 ^ 32:=by
 show (t % 2) * 2 ^ 31 + 0x7f800000 + 1 + (t / 2) % (2 ^ 23 - 1) < 2 ^ 32
 omega
theorem cut_lt64 (x y t:Nat):(Question.nanBits .f64 x y).cut t < 2 ^ 64:=by
 show (t % 2) * 2 ^ 63 + 0x7ff0000000000000 + 1 + (t / 2) % (2 ^ 52 - 1) < 2 ^ 64
 omega
theorem cut_conv32 (x t:Nat):(Question.nanConv .f32 x).cut t < 2 ^ 32:=by
 show (t % 2) * 2 ^ 31 + 0x7f800000 + 1 + (t / 2) % (2 ^ 23 - 1) < 2 ^ 32
 omega
theorem width32:FloatKind.f32.format.width=32:=rfl
theorem width64:FloatKind.f64.format.width=64:=rfl
theorem arith_any {P:Program} (op:BinOp) (hop:op=.add ∨ op=.sub ∨ op=.mul ∨ op=.quo) (t:TypeId) (k:FloatKind) (x y:Nat) (w:World) :
   ∃ z w',(binOp op t (.float k x) (.float k y)).run P w=.ok (.float k z) w' ∧ z < 2 ^ k.format.width ∧ Drw w w':=by
 cases h:floatBits op k x y with
 | some r =>
   refine ⟨r,w,run_float_arith w op t k x y r h,?_,Drw.refl w⟩
   have:=floatBits_wf h
   cases k <;> simpa [Lit.wf,width32,width64] using this
 | none =>
   refine ⟨(Question.nanBits k x y).cut (w.tape w.drawn (Question.nanBits k x y)),w.drew,?_,?_,(Drw.refl w).drew⟩
   · unfold floatBits at h
     rcases hop with rfl | rfl | rfl | rfl <;> simp only at h <;> simp [binOp,Op.floatArith,h] <;> (intro hf; simp [Question.forced] at hf)
   · cases k
     · exact cut_lt32 _ _ _
     · exact cut_lt64 _ _ _
theorem run_neg {P:Program} (k:FloatKind) (x:Nat) (w:World):(Op.unary .neg (.float k x)).run P w=.ok (.float k (Op.negFloat k x)) w:=rfl
theorem word_number (f:Ieee.Format) (s:Bool) (r:Nat) (h:r ≤ f.infRung):(f.read (f.word s r)).isNaN=false:=by
 have hr:f.word s r % f.signWeight=r:=rung_word f s r (Nat.lt_of_le_of_lt h (Ieee.Format.infRung_lt f))
 unfold Ieee.Format.read
 simp only [hr]
 split
 · rfl
 · split
   · rfl
   · rw [if_pos (by omega)]; rfl
theorem nearest_number (f:Ieee.Format) (s:Bool) (m:Nat) (p:Int):(f.read (f.nearest s m p)).isNaN=false:=by
 rw [nearest_eq]; exact word_number f s _ (rnd_le_inf f s m p)
theorem quo_number {k:FloatKind} {x one:Nat} (hone:∃ s m e,k.format.read one=.number s (m + 1) e) (h:nan k x=false):∃ r,floatBits .quo k one x=some r ∧ nan k r=false:=by
 obtain ⟨s,m,e,h1⟩:=hone
 unfold nan FloatKind.decode at h ⊢
 simp only [floatBits,Ieee.Format.div,h1]
 cases hx:k.format.read x with
 | nan _ _ => rw [hx] at h; cases h
 | infinity t => exact ⟨_,rfl,nearest_number _ _ _ _⟩
 | number t n j =>
   cases n with
   | zero => exact ⟨_,rfl,word_number _ _ _ (Nat.le_refl _)⟩
   | succ n => exact ⟨_,rfl,nearest_number _ _ _ _⟩
end Go.Proofs.YthhfljldbfgpcaaGreatDoor.Flo
end

section
namespace Go.Proofs.YthhfljldbfgpcaaGreatDoor
namespace Flo
open Ieee
theorem rep_gen {f:Format} {v:Int} {m e:Nat} (hv:v.natAbs=m * 2 ^ e) (hm:m < 2 * f.binade) (hmax:(e + 2) * f.binade ≤ f.infRung):Rep f v:=by
 have hbp:=binade_pos f
 have h2:2 * f.binade ≤ (e + 2) * f.binade:=Nat.mul_le_mul_right _ (by omega)
 by_cases hs:m * 2 ^ e < 2 * f.binade
 · refine ⟨m * 2 ^ e,?_,?_⟩
   · rcases Nat.eq_zero_or_pos e with h | h
     · subst h; omega
     · have:3 * f.binade ≤ (e + 2) * f.binade:=Nat.mul_le_mul_right _ (by omega)
       omega
   · rw [hv]
     have hq:m * 2 ^ e / f.binade < 2:=Nat.div_lt_of_lt_mul (by omega)
     unfold rv rm re
     have:m * 2 ^ e / f.binade - 1=0:=by omega
     rw [this]; simp
 · have h0:m ≠ 0:=by intro h; subst h; simp at hs; omega
   have hl:=Nat.log2_self_le h0
   have hu:m < 2 ^ (m.log2 + 1):=Nat.lt_log2_self
   have hlog:m.log2 ≤ f.fractionBits:=by
     have:m.log2 < f.fractionBits + 1:=(Nat.log2_lt h0).2 (by rw [Nat.pow_succ,Nat.mul_comm]; exact hm)
     omega
   obtain ⟨k,hk⟩:∃ k,m.log2 + k=f.fractionBits:=⟨f.fractionBits - m.log2,by omega⟩
   have h1:f.binade ≤ m * 2 ^ k:=by
     unfold Format.binade; rw [← hk,Nat.pow_add]; exact Nat.mul_le_mul_right _ hl
   have h3:m * 2 ^ k < 2 * f.binade:=by
     unfold Format.binade
     calc m * 2 ^ k < 2 ^ (m.log2 + 1) * 2 ^ k:=Nat.mul_lt_mul_of_pos_right hu (Nat.two_pow_pos _)
       _=2 * 2 ^ f.fractionBits:=by rw [← hk,Nat.pow_succ,Nat.pow_add]; simp only [Nat.mul_comm,Nat.mul_left_comm]
   have hke:k ≤ e:=by
     rcases Nat.le_total k e with h | h
     · exact h
     · exfalso
       have:m * 2 ^ e ≤ m * 2 ^ k:=Nat.mul_le_mul_left _ (Nat.pow_le_pow_right (by omega) h)
       omega
   refine ⟨(e - k) * f.binade + m * 2 ^ k,?_,?_⟩
   · have:(e - k) * f.binade ≤ e * f.binade:=Nat.mul_le_mul_right _ (by omega)
     rw [Nat.add_mul] at hmax
     omega
   · have hdiv:((e - k) * f.binade + m * 2 ^ k) / f.binade=e - k + 1:=by
       rw [Nat.mul_comm,Nat.mul_add_div hbp]
       have:m * 2 ^ k / f.binade=1:=by
         rw [Nat.div_eq_iff hbp]; omega
       omega
     have hre:re f ((e - k) * f.binade + m * 2 ^ k)=e - k:=by unfold re; rw [hdiv]; omega
     have hrm:rm f ((e - k) * f.binade + m * 2 ^ k)=m * 2 ^ k:=by unfold rm; rw [hre]; omega
     unfold rv
     rw [hre,hrm,hv,Nat.mul_assoc,← Nat.pow_add]
     congr 2; omega
theorem cut_zero (neg:Bool) (n drop:Nat):Toward.zero.cut neg n drop=n / 2 ^ drop:=by
 unfold Toward.cut
 simp only [Bool.toNat_false,Nat.add_zero]
 by_cases hd:drop ≤ n.log2 + 2
 · rw [Nat.min_eq_left hd,Nat.one_shiftLeft]
 · have hd':n.log2 + 2 ≤ drop:=by omega
   have hlt:n < 2 ^ (n.log2 + 1):=Nat.lt_log2_self
   have h2:2 ^ (n.log2 + 1) ≤ 2 ^ (n.log2 + 2):=Nat.pow_le_pow_right (by omega) (by omega)
   have h3:2 ^ (n.log2 + 2) ≤ 2 ^ drop:=Nat.pow_le_pow_right (by omega) hd'
   rw [Nat.min_eq_right hd',Nat.one_shiftLeft,Nat.div_eq_of_lt (by omega),Nat.div_eq_of_lt (by omega)]
theorem toInt_val {f:Format} {l:Nat} (hl:f.leastPlace=-(l:Int)) {x:Nat} {v:Int} (h:Val f x v):(f.read x).toInt .zero=some (v.tdiv (2 ^ l:Nat)):=by
 have hd:=val_digits h
 have hiv:=h.iv
 unfold Flo.iv rv at hiv
 rw [read_fin h.fin]
 generalize re f (rung f x)=e at *
 generalize rm f (rung f x)=m at *
 generalize sgn f x=s at *
 unfold Datum.toInt Datum.integral
 simp only [Option.some.injEq]
 rw [cut_zero,hl]
 have key:(m <<< (-(l:Int) + e).toNat) / 2 ^ (-(-(l:Int) + e)).toNat=m * 2 ^ e / 2 ^ l:=by
   rw [Nat.shiftLeft_eq]
   rcases Nat.le_total l e with h | h
   · obtain ⟨k,rfl⟩:∃ k,e=l + k:=⟨e - l,by omega⟩
     have e1:(-(l:Int) + ((l + k:Nat):Int)).toNat=k:=by omega
     have e2:(-(-(l:Int) + ((l + k:Nat):Int))).toNat=0:=by omega
     rw [e1,e2,Nat.pow_zero,Nat.div_one,Nat.pow_add,← Nat.mul_assoc,Nat.mul_right_comm,Nat.mul_div_cancel _ (Nat.two_pow_pos l)]
   · obtain ⟨k,rfl⟩:∃ k,l=e + k:=⟨l - e,by omega⟩
     have e1:(-((e + k:Nat):Int) + (e:Int)).toNat=0:=by omega
     have e2:(-(-((e + k:Nat):Int) + (e:Int))).toNat=k:=by omega
     rw [e1,e2,Nat.pow_zero,Nat.mul_one,Nat.pow_add,Nat.mul_comm m,Nat.mul_div_mul_left _ _ (Nat.two_pow_pos e)]
 rw [key]
 unfold signed
 rw [Nat.shiftLeft_zero]
 cases s
 · simp only [Bool.false_eq_true,if_false] at hiv ⊢
   rw [← hiv,Int.tdiv_eq_ediv_of_nonneg (by omega)]
   exact (Int.natCast_ediv _ _)
 · simp only [if_true] at hiv ⊢
   rw [← hiv,Int.neg_tdiv,Int.tdiv_eq_ediv_of_nonneg (by omega)]
   exact congrArg Neg.neg (Int.natCast_ediv _ _)
theorem ofInt_val {k:FloatKind} {l:Nat} (hl:k.format.leastPlace=-(l:Int)) (n:Int) (hn:n.natAbs < 2 * k.format.binade) (hmax:(l + 2) * k.format.binade ≤ k.format.infRung):Val k.format (floatOfInt k n) (n * (2 ^ l:Nat)):=by
 have hp:(0:Int) < (2 ^ l:Nat):=by have:=Nat.two_pow_pos l; omega
 have hab:(n * (2 ^ l:Nat)).natAbs=n.natAbs * 2 ^ l:=by rw [Int.natAbs_mul,Int.natAbs_natCast]
 refine nearest_val (a:=l) (b:=0) (rep_gen (m:=n.natAbs) (e:=l) hab hn hmax) (by rw [hl]; omega) (by rw [hab]; simp) ?_ ?_
 · intro h
   rcases Int.lt_or_le n 0 with h1 | h1
   · simp [h1]
   · have:=Int.mul_nonneg h1 (Int.le_of_lt hp); omega
 · intro h
   rcases Int.lt_or_le n 0 with h1 | h1
   · have:=Int.mul_neg_of_neg_of_pos h1 hp; omega
   · simp; omega
theorem order_eq_val {k:FloatKind} {x y:Nat} {a b:Int} (hx:Val k.format x a) (hy:Val k.format y b):(k.format.order x y == some .eq)=decide (a=b):=by
 rw [order_val hx hy]
 rcases Int.lt_trichotomy a b with h | h | h
 · rw [Int.compare_eq_lt.2 h]; simp; omega
 · rw [Int.compare_eq_eq.2 h]; simp [h]
 · rw [Int.compare_eq_gt.2 h]; simp; omega
theorem order_lt_val {k:FloatKind} {x y:Nat} {a b:Int} (hx:Val k.format x a) (hy:Val k.format y b):(k.format.order x y == some .lt)=decide (a < b):=by
 rw [order_val hx hy]
 rcases Int.lt_trichotomy a b with h | h | h
 · rw [Int.compare_eq_lt.2 h]; simp [h]
 · rw [Int.compare_eq_eq.2 h]; simp; omega
 · rw [Int.compare_eq_gt.2 h]; simp; omega
theorem order_gt_val {k:FloatKind} {x y:Nat} {a b:Int} (hx:Val k.format x a) (hy:Val k.format y b):(k.format.order x y == some .gt)=decide (b < a):=by
 rw [order_val hx hy]
 rcases Int.lt_trichotomy a b with h | h | h
 · rw [Int.compare_eq_lt.2 h]; simp; omega
 · rw [Int.compare_eq_eq.2 h]; simp; omega
 · rw [Int.compare_eq_gt.2 h]; simp [h]
theorem fin_between {f:Format} (he:1 ≤ f.exponentBits) {x p q:Nat} {a b:Int} (hx:x < 2 ^ f.width) (hp:Val f p a) (hq:Val f q b) (h1:(f.order x p == some .gt || f.order x p == some .eq)=true) (h2:(f.order x q == some .lt || f.order x q == some .eq)=true) :
   Val f x (iv f x) ∧ a ≤ iv f x ∧ iv f x ≤ b:=by
 rcases kinds f he x with hf | ⟨s,hi⟩ | ⟨s,t,hn⟩
 · have hv:Val f x (iv f x):=⟨hx,hf,rfl⟩
   refine ⟨hv,?_,?_⟩
   · rw [order_val hv hp] at h1
     rcases Int.lt_trichotomy (iv f x) a with h | h | h
     · rw [Int.compare_eq_lt.2 h] at h1; simp at h1
     · omega
     · omega
   · rw [order_val hv hq] at h2
     rcases Int.lt_trichotomy (iv f x) b with h | h | h
     · omega
     · omega
     · rw [Int.compare_eq_gt.2 h] at h2; simp at h2
 · exfalso
   unfold Format.order at h1 h2
   rw [hi,read_fin hp.fin] at h1
   rw [hi,read_fin hq.fin] at h2
   cases s
   · simp [Datum.order] at h2
   · simp [Datum.order] at h1
 · exfalso
   unfold Format.order at h1
   rw [hn,read_fin hp.fin] at h1
   simp [Datum.order] at h1
def u32:Nat:=149
theorem u32_eq:u32=149:=rfl
def u64:Nat:=1074
theorem u64_eq:u64=1074:=rfl
theorem least32:single.leastPlace=-(u32:Int):=by rw [u32_eq]; exact single_least
theorem least64:double.leastPlace=-(u64:Int):=by rw [u64_eq]; exact double_least
theorem four_val:Val single 1082130432 (4 * (2 ^ u32:Nat)):=by
 refine ⟨by decide,by unfold fin; decide,?_⟩
 rw [u32_eq]
 unfold iv
 have h1:sgn single 1082130432=false:=by decide
 have h2:rv single (rung single 1082130432)=4 * 2 ^ 149:=by decide +kernel
 rw [h1,h2]; simp
theorem minus_four_val:Val single 3229614080 (-(4 * (2 ^ u32:Nat))):=by
 refine ⟨by decide,by unfold fin; decide,?_⟩
 rw [u32_eq]
 unfold iv
 have h1:sgn single 3229614080=true:=by decide
 have h2:rv single (rung single 3229614080)=4 * 2 ^ 149:=by decide +kernel
 rw [h1,h2]; simp
def inFour (x:Nat):Bool:=(FloatKind.f32.format.order x 3229614080 == some .gt || FloatKind.f32.format.order x 3229614080 == some .eq) && (FloatKind.f32.format.order x 1082130432 == some .lt || FloatKind.f32.format.order x 1082130432 == some .eq)
def wholeB (x d:Nat):Bool:=inFour x && decide (iv single x * (2 ^ d:Nat) % (2 ^ u32:Nat)=0)
theorem inFour_val {x:Nat} (hx:x < 4294967296) (h:inFour x=true):Val single x (iv single x) ∧ (iv single x).natAbs ≤ 4 * 2 ^ u32:=by
 unfold inFour at h
 rw [Bool.and_eq_true] at h
 obtain ⟨hv,h1,h2⟩:=fin_between (f:=single) (by decide) hx minus_four_val four_val h.1 h.2
 refine ⟨hv,?_⟩
 generalize (2:Nat) ^ u32=U at *
 omega
theorem whole_steps {x d:Nat} (hx:x < 4294967296) (hd:d ≤ 11) (h:inFour x=true) :
   ∃ (y:Nat) (n:Int),floatBits .mul .f32 x (floatOfInt .f32 ((2 ^ d:Nat):Int))=some y ∧ floatToIntVal .f32 y .i64=some n ∧ n=(iv single x * (2 ^ d:Nat)).tdiv (2 ^ u32:Nat) ∧ Val single y (iv single x * (2 ^ d:Nat)) ∧
     (FloatKind.f32.format.order (floatOfInt .f32 n) y == some .eq)=decide (iv single x * (2 ^ d:Nat) % (2 ^ u32:Nat)=0):=by
 obtain ⟨hv,hb⟩:=inFour_val hx h
 have hdp:2 ^ d ≤ 2 ^ 11:=Nat.pow_le_pow_right (by omega) hd
 have hD:Val single (floatOfInt .f32 ((2 ^ d:Nat):Int)) (((2 ^ d:Nat):Int) * (2 ^ u32:Nat)):=ofInt_val (k:=.f32) least32 _ (by rw [Int.natAbs_natCast]; show _ < 2 * single.binade; rw [single_binade]; omega) (by show (u32 + 2) * single.binade ≤ single.infRung; rw [single_inf,u32_eq]; exact Nat.mul_le_mul_right _ (by omega))
 have hdg:=val_digits hv
 have hr:=re_lt (e:=254) hv.fin (by decide)
 have hm:=rm_lt single (rung single x)
 have hrep:Rep single (iv single x * (2 ^ d:Nat)):=by
   by_cases hz:re single (rung single x) + d + 2 ≤ 255
   · refine rep_gen (m:=rm single (rung single x)) (e:=re single (rung single x) + d) ?_ hm ?_
     · rw [Int.natAbs_mul,Int.natAbs_natCast,hdg,Nat.mul_assoc,← Nat.pow_add]
     · rw [single_inf]; exact Nat.mul_le_mul_right _ hz
   · exfalso
     have hge:=rm_ge single (rung single x) (by omega)
     rw [single_binade] at hge
     have h1:8388608 * 2 ^ re single (rung single x) ≤ rm single (rung single x) * 2 ^ re single (rung single x):=Nat.mul_le_mul_right _ hge
     have h2:2 ^ (u32 + 3) ≤ 2 ^ re single (rung single x):=Nat.pow_le_pow_right (by omega) (by rw [u32_eq]; omega)
     have h3:2 ^ (u32 + 3)=8 * 2 ^ u32:=by rw [Nat.pow_add,Nat.mul_comm]
     have h4:=Nat.two_pow_pos u32
     rw [hdg] at hb
     omega
 obtain ⟨y,hy,hyv⟩:=mul_val (f:=single) (c:=iv single x * (2 ^ d:Nat)) least32 hv hD (by rw [Int.mul_assoc]) hrep
 have hti:=toInt_val (f:=single) least32 hyv
 generalize hA:iv single x * ((2 ^ d:Nat):Int)=A at *
 have hAb:A.natAbs ≤ 8192 * 2 ^ u32:=by
   rw [← hA,Int.natAbs_mul,Int.natAbs_natCast]
   calc (iv single x).natAbs * 2 ^ d ≤ (4 * 2 ^ u32) * 2 ^ 11:=Nat.mul_le_mul hb hdp
     _=8192 * 2 ^ u32:=by rw [Nat.mul_right_comm]
 have hU:=Nat.two_pow_pos u32
 have hna:(A.tdiv (2 ^ u32:Nat)).natAbs ≤ 8192:=by
   rw [Int.natAbs_tdiv,Int.natAbs_natCast]
   exact Nat.div_le_of_le_mul (by rw [Nat.mul_comm]; exact hAb)
 have hN:Val single (floatOfInt .f32 (A.tdiv (2 ^ u32:Nat))) (A.tdiv (2 ^ u32:Nat) * (2 ^ u32:Nat)):=ofInt_val (k:=.f32) least32 _ (by show _ < 2 * single.binade; rw [single_binade]; omega) (by show (u32 + 2) * single.binade ≤ single.infRung; rw [single_inf,u32_eq]; exact Nat.mul_le_mul_right _ (by omega))
 refine ⟨y,A.tdiv (2 ^ u32:Nat),hy,?_,rfl,hyv,?_⟩
 · unfold floatToIntVal
   have:(FloatKind.f32.decode y).toInt .zero=some (A.tdiv (2 ^ u32:Nat)):=hti
   rw [this]
   simp only
   rw [if_pos]
   have h1:IntKind.i64.min=-9223372036854775808:=by decide
   have h2:IntKind.i64.max=9223372036854775807:=by decide
   rw [h1,h2]
   omega
 · rw [order_eq_val (k:=.f32) hN hyv]
   congr 1
   have hmod:=Int.mul_tdiv_add_tmod A (2 ^ u32:Nat)
   rw [Int.mul_comm] at hmod
   rw [eq_iff_iff]
   constructor
   · intro h
     exact Int.emod_eq_zero_of_dvd ⟨_,by rw [Int.mul_comm]; exact h.symm⟩
   · intro h
     exact Int.tdiv_mul_cancel (Int.dvd_of_emod_eq_zero h)
end Flo
end Go.Proofs.YthhfljldbfgpcaaGreatDoor
end

section
namespace Go.Proofs.YthhfljldbfgpcaaGreatDoor
namespace Flo
open Ieee
def sideF (d:Nat):Nat:=(127 - d) * 8388608
def Pt (x d:Nat) (n:Int):Prop:=Val single x (n * (2 ^ (u32 - d):Nat))
theorem pow_split {d:Nat} (hd:d ≤ 11):2 ^ u32=2 ^ (u32 - d) * 2 ^ d:=by
 rw [← Nat.pow_add]; congr 1; rw [u32_eq]; omega
theorem side_val (d:Nat) (hd:d ≤ 11):Pt (sideF d) d 1:=by
 unfold Pt
 rw [Int.one_mul]
 rcases (by omega:d=0 ∨ d=1 ∨ d=2 ∨ d=3 ∨ d=4 ∨ d=5 ∨ d=6 ∨ d=7 ∨ d=8 ∨ d=9 ∨ d=10 ∨ d=11) with rfl | rfl | rfl | rfl | rfl | rfl | rfl | rfl | rfl | rfl | rfl | rfl
 all_goals
   refine ⟨by decide,by unfold fin; decide,?_⟩
   unfold iv u32
   rw [if_neg (by decide)]
   congr 1
theorem whole_pt {x d:Nat} (hx:x < 4294967296) (hd:d ≤ 11) (h:wholeB x d=true):∃ A:Int,Pt x d A ∧ A.natAbs ≤ 4 * 2 ^ d:=by
 unfold wholeB at h
 rw [Bool.and_eq_true,decide_eq_true_eq] at h
 obtain ⟨hv,hb⟩:=inFour_val hx h.1
 have hs:=pow_split hd
 have hp:(0:Int) < (2 ^ d:Nat):=by have:=Nat.two_pow_pos d; omega
 obtain ⟨A,hA⟩:=Int.dvd_of_emod_eq_zero h.2
 have hA2:iv single x=A * (2 ^ (u32 - d):Nat):=by
   refine Int.eq_of_mul_eq_mul_right (Int.ne_of_gt hp) ?_
   rw [hA,hs,Int.natCast_mul,Int.mul_assoc A,Int.mul_comm A]
 refine ⟨A,?_,?_⟩
 · unfold Pt; rw [← hA2]; exact hv
 · rw [hA2,Int.natAbs_mul,Int.natAbs_natCast,hs] at hb
   have:4 * (2 ^ (u32 - d) * 2 ^ d)=4 * 2 ^ d * 2 ^ (u32 - d):=by rw [Nat.mul_assoc,Nat.mul_comm (2 ^ (u32 - d))]
   rw [this] at hb
   exact Nat.le_of_mul_le_mul_right hb (Nat.two_pow_pos _)
theorem pt_rep {d:Nat} (hd:d ≤ 11) {n:Int} (hn:n.natAbs < 16777216):Rep single (n * (2 ^ (u32 - d):Nat)):=by
 refine rep_gen (m:=n.natAbs) (e:=u32 - d) (by rw [Int.natAbs_mul,Int.natAbs_natCast]) (by rw [single_binade]; omega) ?_
 rw [single_inf,u32_eq]
 exact Nat.mul_le_mul_right _ (by omega)
theorem sides_pt (d:Nat) (hd:d ≤ 11) (j:Int) (hj:j.natAbs ≤ 65536):∃ p,floatBits .mul .f32 (floatOfInt .f32 j) (sideF d)=some p ∧ Pt p d j:=by
 have hJ:Val single (floatOfInt .f32 j) (j * (2 ^ u32:Nat)):=ofInt_val (k:=.f32) least32 _ (by show _ < 2 * single.binade; rw [single_binade]; omega) (by show (u32 + 2) * single.binade ≤ single.infRung; rw [single_inf,u32_eq]; exact Nat.mul_le_mul_right _ (by omega))
 obtain ⟨p,hp,hv⟩:=mul_val (f:=single) (c:=j * (2 ^ (u32 - d):Nat)) least32 hJ (side_val d hd) (by rw [Int.one_mul,Int.mul_right_comm]) (pt_rep hd (by omega))
 exact ⟨p,hp,hv⟩
theorem sum_pt {d x y:Nat} {a b:Int} (hd:d ≤ 11) (hx:Pt x d a) (hy:Pt y d b) (h:(a + b).natAbs < 16777216):∃ z,floatBits .add .f32 x y=some z ∧ Pt z d (a + b):=by
 have hr:=pt_rep hd h
 rw [Int.add_mul] at hr
 obtain ⟨z,hz,hv⟩:=add_val hx hy hr
 refine ⟨z,hz,?_⟩
 unfold Pt
 rw [Int.add_mul]
 exact hv
theorem point_pt {c d:Nat} {A:Int} (hd:d ≤ 11) (hc:Pt c d A) (hA:A.natAbs ≤ 65536) (j:Int) (hj:j.natAbs ≤ 65536) :
   ∃ p x,floatBits .mul .f32 (floatOfInt .f32 j) (sideF d)=some p ∧ floatBits .add .f32 c p=some x ∧ Pt x d (A + j):=by
 obtain ⟨p,hp,hv⟩:=sides_pt d hd j hj
 obtain ⟨x,hx,hv2⟩:=sum_pt hd hc hv (by omega)
 exact ⟨p,x,hp,hx,hv2⟩
theorem steps_pt {x d:Nat} {n:Int} (hd:d ≤ 11) (hx:Pt x d n) (hn:n.natAbs ≤ 65536) :
   ∃ y1 y,floatToFloatBits .f32 x .f64=some y1 ∧ floatBits .mul .f64 y1 4715268809856909312=some y ∧ Val double y (n * (2 ^ (24 - d):Nat) * (2 ^ u64:Nat)) ∧ floatToIntVal .f64 y .i64=some (n * (2 ^ (24 - d):Nat)):=by
 obtain ⟨y1,h1,v1⟩:=widen_val hx
 have hU:Val double 4715268809856909312 ((16777216:Int) * (2 ^ u64:Nat)):=by
   have:=ofInt_val (k:=.f64) least64 16777216 (by show _ < 2 * double.binade; rw [double_binade]; omega) (by show (u64 + 2) * double.binade ≤ double.infRung; rw [double_inf,u64_eq]; exact Nat.mul_le_mul_right _ (by omega))
   have e:floatOfInt .f64 16777216=4715268809856909312:=by kernel_rfl
   rw [e] at this
   exact this
 have hpd:2 ^ (24 - d) ≤ 2 ^ 24:=Nat.pow_le_pow_right (by omega) (by omega)
 have hN:(n * (2 ^ (24 - d):Nat)).natAbs ≤ 65536 * 16777216:=by
   rw [Int.natAbs_mul,Int.natAbs_natCast]
   exact Nat.mul_le_mul hn (by omega)
 have hrep:Rep double (n * (2 ^ (24 - d):Nat) * (2 ^ u64:Nat)):=by
   refine rep_gen (m:=(n * (2 ^ (24 - d):Nat)).natAbs) (e:=u64) (by rw [Int.natAbs_mul,Int.natAbs_natCast]) (by rw [double_binade]; omega) ?_
   rw [double_inf,u64_eq]
   exact Nat.mul_le_mul_right _ (by omega)
 have hc:n * (2 ^ (u32 - d):Nat) * (2 ^ wup:Nat) * ((16777216:Int) * (2 ^ u64:Nat))=n * (2 ^ (24 - d):Nat) * (2 ^ u64:Nat) * (2 ^ u64:Nat):=by
   have e:(2 ^ (u32 - d) * 2 ^ wup * 16777216:Nat)=2 ^ (24 - d) * 2 ^ u64:=by
     rw [show (16777216:Nat)=2 ^ 24 by decide,← Nat.pow_add,← Nat.pow_add,← Nat.pow_add]
     congr 1
     rw [u32_eq,wup_eq,u64_eq]; omega
   have e2:((2 ^ (u32 - d):Nat):Int) * (2 ^ wup:Nat) * 16777216=(2 ^ (24 - d):Nat) * (2 ^ u64:Nat):=by
     have:=congrArg (fun x:Nat => (x:Int)) e
     simp only [Int.natCast_mul] at this
     exact this
   generalize ((2 ^ (u32 - d):Nat):Int)=P at *
   generalize ((2 ^ wup:Nat):Int)=Q at *
   generalize ((2 ^ u64:Nat):Int)=R at *
   generalize ((2 ^ (24 - d):Nat):Int)=S at *
   calc n * P * Q * (16777216 * R)=n * (P * Q * 16777216) * R:=by simp only [Int.mul_assoc]
     _=n * S * R * R:=by rw [e2]; simp only [Int.mul_assoc]
 obtain ⟨y,hy,v2⟩:=mul_val (f:=double) (c:=n * (2 ^ (24 - d):Nat) * (2 ^ u64:Nat)) least64 v1 hU hc hrep
 refine ⟨y1,y,h1,hy,v2,?_⟩
 have hti:=toInt_val (f:=double) least64 v2
 have hp:((2 ^ u64:Nat):Int) ≠ 0:=by have:=Nat.two_pow_pos u64; omega
 rw [Int.mul_tdiv_cancel _ hp] at hti
 unfold floatToIntVal
 have:(FloatKind.f64.decode y).toInt .zero=some (n * (2 ^ (24 - d):Nat)):=hti
 rw [this]
 simp only
 rw [if_pos]
 have h1:IntKind.i64.min=-9223372036854775808:=by decide
 have h2:IntKind.i64.max=9223372036854775807:=by decide
 rw [h1,h2]
 omega
theorem edge_val:Val double 4728779608739020800 ((134217728:Int) * (2 ^ u64:Nat)):=by
 have:=ofInt_val (k:=.f64) least64 134217728 (by show _ < 2 * double.binade; rw [double_binade]; omega) (by show (u64 + 2) * double.binade ≤ double.infRung; rw [double_inf,u64_eq]; exact Nat.mul_le_mul_right _ (by omega))
 have e:floatOfInt .f64 134217728=4728779608739020800:=by kernel_rfl
 rw [e] at this
 exact this
theorem minus_edge_val:Val double 13952151645593796608 ((-134217728:Int) * (2 ^ u64:Nat)):=by
 have:=ofInt_val (k:=.f64) least64 (-134217728) (by show _ < 2 * double.binade; rw [double_binade]; omega) (by show (u64 + 2) * double.binade ≤ double.infRung; rw [double_inf,u64_eq]; exact Nat.mul_le_mul_right _ (by omega))
 have e:floatOfInt .f64 (-134217728)=13952151645593796608:=by kernel_rfl
 rw [e] at this
 exact this
theorem mul_le_iff {a b:Int}:(a * (2 ^ u64:Nat) ≤ b * (2 ^ u64:Nat)) ↔ a ≤ b:=by
 have hp:(0:Int) < (2 ^ u64:Nat):=by have:=Nat.two_pow_pos u64; omega
 exact ⟨fun h => Int.le_of_mul_le_mul_right h hp,fun h => Int.mul_le_mul_of_nonneg_right h (Int.le_of_lt hp)⟩
theorem steps_tests {y:Nat} {N:Int} (hN:N.natAbs ≤ 1099511627776) (hy:Val double y (N * (2 ^ u64:Nat))) :
   (FloatKind.f64.format.order y 13952151645593796608 == some .gt || FloatKind.f64.format.order y 13952151645593796608 == some .eq)=decide (-134217728 ≤ N) ∧
   (FloatKind.f64.format.order y 4728779608739020800 == some .lt || FloatKind.f64.format.order y 4728779608739020800 == some .eq)=decide (N ≤ 134217728) ∧
   (FloatKind.f64.format.order (floatOfInt .f64 N) y == some .gt)=false ∧ (FloatKind.f64.format.order (floatOfInt .f64 N) y == some .lt)=false:=by
 have hNv:Val double (floatOfInt .f64 N) (N * (2 ^ u64:Nat)):=ofInt_val (k:=.f64) least64 N (by show _ < 2 * double.binade; rw [double_binade]; omega) (by show (u64 + 2) * double.binade ≤ double.infRung; rw [double_inf,u64_eq]; exact Nat.mul_le_mul_right _ (by omega))
 have m1:=@mul_le_iff (-134217728) N
 have m2:=@mul_le_iff N 134217728
 refine ⟨?_,?_,?_,?_⟩
 · rw [order_gt_val (k:=.f64) hy minus_edge_val,order_eq_val (k:=.f64) hy minus_edge_val,Bool.eq_iff_iff]
   simp only [Bool.or_eq_true,decide_eq_true_eq]
   rw [← m1]; omega
 · rw [order_lt_val (k:=.f64) hy edge_val,order_eq_val (k:=.f64) hy edge_val,Bool.eq_iff_iff]
   simp only [Bool.or_eq_true,decide_eq_true_eq]
   rw [← m2]; omega
 · rw [order_gt_val (k:=.f64) hNv hy]; simp
 · rw [order_lt_val (k:=.f64) hNv hy]; simp
end Flo
end Go.Proofs.YthhfljldbfgpcaaGreatDoor
end

section
namespace Go.Proofs.YthhfljldbfgpcaaGreatDoor
namespace Flo
open Ieee
theorem andNot_sign (z:Nat) (hz:z < 18446744073709551616):bits .andNot .u64 (z:Int) 9223372036854775808=((z % 9223372036854775808:Nat):Int):=by
 have h:=u64_andNot_nat z 9223372036854775808 hz (by omega)
 rw [show (18446744073709551615 - 9223372036854775808:Nat)=2 ^ 63 - 1 by decide,Nat.and_two_pow_sub_one_eq_mod] at h
 exact h
def e45:Nat:=2045
theorem e45_eq:e45=2045:=rfl
def maxU:Nat:=(2 ^ 53 - 1) * 2 ^ e45
theorem max_rv:rv double (rung double 9218868437227405311)=maxU:=by kernel_rfl
theorem max_val:Val double 9218868437227405311 (maxU:Int):=by
 refine ⟨by decide,by unfold fin; decide,?_⟩
 unfold iv
 rw [if_neg (by decide),max_rv]
theorem max_ge:8192 * 2 ^ u64 ≤ maxU:=by
 unfold maxU
 calc 8192 * 2 ^ u64 ≤ (2 ^ 53 - 1) * 2 ^ u64:=Nat.mul_le_mul_right _ (by decide)
   _ ≤ (2 ^ 53 - 1) * 2 ^ e45:=Nat.mul_le_mul_left _ (Nat.pow_le_pow_right (by omega) (by rw [u64_eq,e45_eq]; omega))
end Flo
end Go.Proofs.YthhfljldbfgpcaaGreatDoor
end

section
namespace Go.Proofs.YthhfljldbfgpcaaGreatDoor
namespace Flo
open Ieee
theorem width_eq (f:Format):2 ^ f.width=2 * f.signWeight:=by
 unfold Format.width Format.signWeight
 rw [Nat.add_assoc,Nat.pow_add]
theorem neg_neg (k:FloatKind) (x:Nat):Op.negFloat k (Op.negFloat k x)=x:=by
 unfold Op.negFloat
 rw [Nat.xor_assoc,Nat.xor_self,Nat.xor_zero]
theorem rung_flip (f:Format) (x:Nat) (h:x < f.signWeight):rung f x=x ∧ sgn f x=false ∧ rung f (f.signWeight + x)=x ∧ sgn f (f.signWeight + x)=true:=by
 have hp:=signWeight_pos f
 unfold rung sgn
 rw [Nat.mod_eq_of_lt h,Nat.div_eq_of_lt h,Nat.add_mod_left,Nat.mod_eq_of_lt h,Nat.add_div_left _ hp,Nat.div_eq_of_lt h]
 exact ⟨rfl,rfl,rfl,rfl⟩
theorem abs_val {f:Format} {x:Nat} {v:Int} (h:Val f x v):Val f (x % f.signWeight) (v.natAbs:Int):=by
 have hp:=signWeight_pos f
 have hlt:=Nat.mod_lt x hp
 have hx:=rung_flip f (x % f.signWeight) hlt
 refine ⟨?_,?_,?_⟩
 · rw [width_eq]; omega
 · unfold fin; rw [hx.1]; exact h.fin
 · have hiv:=h.iv
   unfold iv at hiv ⊢
   rw [hx.1,hx.2.1]
   show (rv f (x % f.signWeight):Int)=_
   rw [← hiv]
   show (rv f (rung f x):Int)=_
   split <;> simp
theorem signWeight64:double.signWeight=9223372036854775808:=by decide
end Flo
end Go.Proofs.YthhfljldbfgpcaaGreatDoor
end

section
namespace Go.Proofs.YthhfljldbfgpcaaGreatDoor
def lowT (X Y:Int):Nat → Int × Int × Nat
 | 0 => (X,Y,0)
 | d + 1 => if X % 2=0 ∧ Y % 2=0 then lowT (X / 2) (Y / 2) d else (X,Y,d + 1)
theorem lowT_up (X Y:Int) (d t:Nat):lowT (X * (2 ^ t:Nat)) (Y * (2 ^ t:Nat)) (d + t)=lowT X Y d:=by
 induction t with
 | zero => simp
 | succ t ih =>
   have e:∀ Z:Int,Z * ((2 ^ (t + 1):Nat):Int)=2 * (Z * ((2 ^ t:Nat):Int)):=fun Z => by
     rw [Nat.pow_succ,Int.natCast_mul,← Int.mul_assoc,Int.mul_comm]; rfl
   rw [e,e,← Nat.add_assoc]
   show (if _ ∧ _ then _ else _)=_
   rw [if_pos ⟨by omega,by omega⟩,show 2 * (X * ((2 ^ t:Nat):Int)) / 2=X * ((2 ^ t:Nat):Int) by omega,show 2 * (Y * ((2 ^ t:Nat):Int)) / 2=Y * ((2 ^ t:Nat):Int) by omega]
   exact ih
structure LowIs (X Y:Int) (d:Nat) (r:Int × Int × Nat):Prop where
 le:r.2.2 ≤ d
 re:r.1 * (2 ^ (d - r.2.2):Nat)=X
 im:r.2.1 * (2 ^ (d - r.2.2):Nat)=Y
 odd:r.2.2=0 ∨ ¬ (r.1 % 2=0 ∧ r.2.1 % 2=0)
 bre:r.1.natAbs ≤ X.natAbs
 bim:r.2.1.natAbs ≤ Y.natAbs
theorem lowT_is (X Y:Int) (d:Nat):LowIs X Y d (lowT X Y d):=by
 induction d generalizing X Y with
 | zero => exact ⟨Nat.le_refl _,by simp [lowT],by simp [lowT],.inl rfl,Nat.le_refl _,Nat.le_refl _⟩
 | succ d ih =>
   unfold lowT
   split
   · rename_i h
     have k:=ih (X / 2) (Y / 2)
     obtain ⟨k1,k2,k3,k4,k5,k6⟩:=k
     refine ⟨by omega,?_,?_,k4,by omega,by omega⟩
     · rw [show d + 1 - (lowT (X / 2) (Y / 2) d).2.2=(d - (lowT (X / 2) (Y / 2) d).2.2) + 1 by omega,Nat.pow_succ,Int.natCast_mul,← Int.mul_assoc,k2]
       have:=h.1
       show X / 2 * 2=X
       omega
     · rw [show d + 1 - (lowT (X / 2) (Y / 2) d).2.2=(d - (lowT (X / 2) (Y / 2) d).2.2) + 1 by omega,Nat.pow_succ,Int.natCast_mul,← Int.mul_assoc,k3]
       have:=h.2
       show Y / 2 * 2=Y
       omega
   · rename_i h
     exact ⟨Nat.le_refl _,by simp,by simp,.inr h,Nat.le_refl _,Nat.le_refl _⟩
theorem and_one (a:Int) (h1:-9223372036854775808 ≤ a) (h2:a ≤ 9223372036854775807):bits .and .i64 a 1=a % 2:=by
 have key:(BitVec.ofInt 64 a).toNat % 2=(a % 2).toNat:=by
   rw [BitVec.toNat_ofInt]
   omega
 show IntKind.i64.wrap ((BitVec.ofInt 64 a &&& BitVec.ofInt 64 1).toNat:Int)=_
 rw [BitVec.toNat_and,show (BitVec.ofInt 64 1).toNat=2 ^ 1 - 1 from rfl,Nat.and_two_pow_sub_one_eq_mod]
 rw [show (2:Nat) ^ 1=2 from rfl,key]
 simp [IntKind.wrap,IntKind.bits,IntKind.signed]
 omega
def evenB (a b:Int):Bool:=decide (a % 2=0 ∧ b % 2=0)
def dyadB (a b s:Int):Bool:=decide (-1073741824 ≤ a ∧ a ≤ 1073741824 ∧ -1073741824 ≤ b ∧ b ≤ 1073741824 ∧ 0 ≤ s ∧ s ≤ 60) && (decide (s=0) || !evenB a b)
theorem low_valid {X Y:Int} {d:Nat} (hX:X.natAbs ≤ 1073741824) (hY:Y.natAbs ≤ 1073741824) (hd:d ≤ 60):dyadB (lowT X Y d).1 (lowT X Y d).2.1 (lowT X Y d).2.2=true:=by
 obtain ⟨k1,k2,k3,k4,k5,k6⟩:=lowT_is X Y d
 unfold dyadB evenB
 rw [Bool.and_eq_true,decide_eq_true_eq,Bool.or_eq_true,decide_eq_true_eq,Bool.not_eq_true',decide_eq_false_iff_not]
 refine ⟨by omega,?_⟩
 rcases k4 with h | h
 · left; rw [h]; rfl
 · exact .inr h
namespace Flo
open Ieee
theorem split_bits {z:Nat} {v:Int} (h:Val double z v):z < 18446744073709551616 ∧ v.natAbs=(if z % 9223372036854775808 / 4503599627370496=0 then z % 4503599627370496 else z % 4503599627370496 + 4503599627370496) * 2 ^ (z % 9223372036854775808 / 4503599627370496 - 1) ∧ (z / 9223372036854775808=if sgn double z then 1 else 0) ∧ z % 9223372036854775808 / 4503599627370496 < 2047:=by
 have hz:z < 18446744073709551616:=h.lt
 have hf:=h.fin
 have hd:=val_digits h
 have e1:rung double z=z % 9223372036854775808:=by unfold rung; rw [signWeight64]
 have e2:sgn double z=(z / 9223372036854775808 % 2 == 1):=by unfold sgn; rw [signWeight64]
 unfold Flo.fin at hf
 rw [double_inf,double_binade,e1] at hf
 rw [hd,e1,e2]
 generalize hr:z % 9223372036854775808=r at *
 have hm:z % 4503599627370496=r % 4503599627370496:=by omega
 refine ⟨hz,?_,?_,by omega⟩
 · have e3:re double r=r / 4503599627370496 - 1:=by unfold re; rw [double_binade]
   have e4:rm double r=r - (r / 4503599627370496 - 1) * 4503599627370496:=by unfold rm; rw [e3,double_binade]
   rw [e3,e4,hm]
   congr 1
   split <;> omega
 · have:z / 9223372036854775808 < 2:=by omega
   rcases (by omega:z / 9223372036854775808=0 ∨ z / 9223372036854775808=1) with h | h
   · rw [h]; rfl
   · rw [h]; rfl
end Flo
end Go.Proofs.YthhfljldbfgpcaaGreatDoor
end
