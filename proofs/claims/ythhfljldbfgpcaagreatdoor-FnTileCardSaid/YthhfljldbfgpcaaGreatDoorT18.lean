/- Merged texts: CvC, MoA, MoB, Dyg, Same, LawS. -/
import Derived.Test.YthhfljldbfgpcaaGreatDoorT17
import Derived.Test.YthhfljldbfgpcaaGreatDoorT5
import Derived.Test.YthhfljldbfgpcaaGreatDoorT16
import Derived.Test.YthhfljldbfgpcaaGreatDoorT3
import Derived.Test.YthhfljldbfgpcaaGreatDoorRows
import Derived.Test.YthhfljldbfgpcaaGreatDoorT1
import Derived.Test.YthhfljldbfgpcaaGreatDoorT2
import Derived.Test.YthhfljldbfgpcaaGreatDoorT4
set_option linter.all false
section
namespace Go.Proofs.YthhfljldbfgpcaaGreatDoor.Cov
theorem Good.join {j:Nat} {cx cy x0 x1 y0 y1:Int} (a:Good j x0 y0) (b:Good j x0 y1) (c:Good j x1 y0) (d:Good j x1 y1) (h:x0=cx - (2 ^ j:Nat) ∧ x1=cx + (2 ^ j:Nat) ∧ y0=cy - (2 ^ j:Nat) ∧ y1=cy + (2 ^ j:Nat)):Good (j + 1) cx cy:=by
 obtain ⟨rfl,rfl,rfl,rfl⟩:=h
 exact Good.four a b c d
set_option maxRecDepth 100000 in
theorem cover:Good 27 0 134217728 :=
 Good.join (j:=26) (cx:=0) (cy:=134217728) (Good.join (j:=25) (cx:=-67108864) (cy:=67108864) cv0 cv1 (Good.join (j:=24) (cx:=-33554432) (cy:=33554432) cv2 cv3 (Good.join (j:=23) (cx:=-16777216) (cy:=16777216) (Good.join (j:=22) (cx:=-25165824) (cy:=8388608) cv4 cv5 (Good.join (j:=21) (cx:=-20971520) (cy:=4194304) cv6 cv7 (Good.join (j:=20) (cx:=-18874368) (cy:=2097152) cv8 cv9 cv10 cv11 (by decide +kernel)) cv12 (by decide +kernel)) cv13 (by decide +kernel)) cv14 (Good.join (j:=22) (cx:=-8388608) (cy:=8388608) (Good.join (j:=21) (cx:=-12582912) (cy:=4194304) (Good.join (j:=20) (cx:=-14680064) (cy:=2097152) cv15 cv16 cv17 cv18 (by decide +kernel)) cv19 (Good.join (j:=20) (cx:=-10485760) (cy:=2097152) cv20 (Good.join (j:=19) (cx:=-11534336) (cy:=3145728) cv21 cv22 cv23 cv24 (by decide +kernel)) cv25 cv26 (by decide +kernel)) (Good.join (j:=20) (cx:=-10485760) (cy:=6291456) (Good.join (j:=19) (cx:=-11534336) (cy:=5242880) cv27 cv28 cv29 cv30 (by decide +kernel)) cv31 cv32 (Good.join (j:=19) (cx:=-9437184) (cy:=7340032) cv33 cv34 cv35 cv36 (by decide +kernel)) (by decide +kernel)) (by decide +kernel)) cv37 cv38 (Good.join (j:=21) (cx:=-4194304) (cy:=12582912) (Good.join (j:=20) (cx:=-6291456) (cy:=10485760) (Good.join (j:=19) (cx:=-7340032) (cy:=9437184) cv39 cv40 cv41 cv42 (by decide +kernel)) cv43 (Good.join (j:=19) (cx:=-5242880) (cy:=9437184) cv44 cv45 cv46 cv47 (by decide +kernel)) cv48 (by decide +kernel)) cv49 (Good.join (j:=20) (cx:=-2097152) (cy:=10485760) cv50 (Good.join (j:=19) (cx:=-3145728) (cy:=11534336) cv51 cv52 cv53 cv54 (by decide +kernel)) cv55 (Good.join (j:=19) (cx:=-1048576) (cy:=11534336) cv56 cv57 cv58 cv59 (by decide +kernel)) (by decide +kernel)) cv60 (by decide +kernel)) (by decide +kernel)) cv61 (by decide +kernel)) cv62 (by decide +kernel)) cv63 (by decide +kernel)) cv64 (Good.join (j:=25) (cx:=67108864) (cy:=67108864) (Good.join (j:=24) (cx:=33554432) (cy:=33554432) (Good.join (j:=23) (cx:=16777216) (cy:=16777216) (Good.join (j:=22) (cx:=8388608) (cy:=8388608) (Good.join (j:=21) (cx:=4194304) (cy:=4194304) cv65 cv66 (Good.join (j:=20) (cx:=6291456) (cy:=2097152) (Good.join (j:=19) (cx:=5242880) (cy:=1048576) (Good.join (j:=18) (cx:=4718592) (cy:=524288) (Good.join (j:=17) (cx:=4456448) (cy:=262144) cv67 cv68 cv69 cv70 (by decide +kernel)) cv71 cv72 cv73 (by decide +kernel)) cv74 cv75 (Good.join (j:=18) (cx:=5767168) (cy:=1572864) cv76 cv77 cv78 cv79 (by decide +kernel)) (by decide +kernel)) (Good.join (j:=19) (cx:=5242880) (cy:=3145728) cv80 cv81 (Good.join (j:=18) (cx:=5767168) (cy:=2621440) cv82 cv83 cv84 cv85 (by decide +kernel)) cv86 (by decide +kernel)) cv87 cv88 (by decide +kernel)) (Good.join (j:=20) (cx:=6291456) (cy:=6291456) (Good.join (j:=19) (cx:=5242880) (cy:=5242880) cv89 cv90 (Good.join (j:=18) (cx:=5767168) (cy:=4718592) cv91 cv92 cv93 cv94 (by decide +kernel)) cv95 (by decide +kernel)) (Good.join (j:=19) (cx:=5242880) (cy:=7340032) cv96 cv97 cv98 cv99 (by decide +kernel)) cv100 cv101 (by decide +kernel)) (by decide +kernel)) (Good.join (j:=21) (cx:=4194304) (cy:=12582912) (Good.join (j:=20) (cx:=2097152) (cy:=10485760) (Good.join (j:=19) (cx:=1048576) (cy:=9437184) cv102 cv103 cv104 cv105 (by decide +kernel)) cv106 (Good.join (j:=19) (cx:=3145728) (cy:=9437184) cv107 cv108 cv109 cv110 (by decide +kernel)) cv111 (by decide +kernel)) cv112 cv113 cv114 (by decide +kernel)) cv115 cv116 (by decide +kernel)) cv117 cv118 cv119 (by decide +kernel)) cv120 cv121 cv122 (by decide +kernel)) cv123 cv124 cv125 (by decide +kernel)) cv126 (by decide +kernel)
theorem zr_conj (a b:Rat):∀ k,zr a (-b) k=((zr a b k).1,-(zr a b k).2)
 | 0 => by simp [zr]
 | k + 1 => by
   have h:=zr_conj a b k
   unfold zr
   rw [h]
   dsimp only
   generalize (zr a b k).1=x
   generalize (zr a b k).2=y
   refine Prod.ext ?_ ?_
   · show (x * x - -y * -y) / 16777216 + a=(x * x - y * y) / 16777216 + a
     grind
   · show 2 * (x * -y) / 16777216 + -b=-(2 * (x * y) / 16777216 + b)
     grind
theorem fine_of_inn {px py:Int} (h1:-134217728 ≤ px) (h2:px ≤ 134217728) (h3:-134217728 ≤ py) (h4:py ≤ 134217728) (h:Inn px py):Fine px py:=by
 have e:((2 ^ 27:Nat):Int)=134217728:=by decide
 have hc:=cover
 unfold Good at hc
 rw [e] at hc
 rcases Int.le_total 0 py with hp | hp
 · exact hc px py (by omega) (by omega) (by omega) (by omega) h
 · have hi:Inn px (-py):=by
     unfold Inn at h ⊢
     rw [Int.neg_mul_neg]
     exact h
   have hf:=hc px (-py) (by omega) (by omega) (by omega) (by omega) hi
   intro k hk
   have:=hf k hk
   rw [Rat.intCast_neg,zr_conj] at this
   obtain ⟨g1,g2⟩:=this
   refine ⟨g1,?_⟩
   dsimp only at g2
   grind
end Go.Proofs.YthhfljldbfgpcaaGreatDoor.Cov
end

section
namespace Go.Proofs.YthhfljldbfgpcaaGreatDoor
open Cov (Le zr Fine Inn)
theorem ilin {p c d y:Int} (h1:c ≤ y) (h2:y ≤ d):(p * c ≤ p * y ∨ p * d ≤ p * y) ∧ (p * y ≤ p * c ∨ p * y ≤ p * d):=by
 rcases Int.le_total 0 p with h | h
 · exact ⟨.inl (Int.mul_le_mul_of_nonneg_left h1 h),.inr (Int.mul_le_mul_of_nonneg_left h2 h)⟩
 · exact ⟨.inr (Int.mul_le_mul_of_nonpos_left h h2),.inl (Int.mul_le_mul_of_nonpos_left h h1)⟩
theorem rlin {p c d y:Rat} (h1:c ≤ y) (h2:y ≤ d):(p * c ≤ p * y ∨ p * d ≤ p * y) ∧ (p * y ≤ p * c ∨ p * y ≤ p * d):=by
 rcases Rat.le_total (a:=0) (b:=p) with h | h
 · exact ⟨.inl (Rat.mul_le_mul_of_nonneg_left h1 h),.inr (Rat.mul_le_mul_of_nonneg_left h2 h)⟩
 · have a:=Rat.mul_le_mul_of_nonneg_left h1 (by grind:0 ≤ -p)
   have b:=Rat.mul_le_mul_of_nonneg_left h2 (by grind:0 ≤ -p)
   exact ⟨.inr (by grind),.inl (by grind)⟩
theorem mLo_le (x:Bx):mLo x ≤ x.a * x.c ∧ mLo x ≤ x.a * x.d ∧ mLo x ≤ x.b * x.c ∧ mLo x ≤ x.b * x.d:=by unfold mLo; omega
theorem le_mHi (x:Bx):x.a * x.c ≤ mHi x ∧ x.a * x.d ≤ mHi x ∧ x.b * x.c ≤ mHi x ∧ x.b * x.d ≤ mHi x:=by unfold mHi; omega
theorem imul_in {x:Bx} {p q:Int} (h1:x.a ≤ p) (h2:p ≤ x.b) (h3:x.c ≤ q) (h4:q ≤ x.d):mLo x ≤ p * q ∧ p * q ≤ mHi x:=by
 have l:=mLo_le x
 have u:=le_mHi x
 have a:=ilin (p:=x.a) h3 h4
 have b:=ilin (p:=x.b) h3 h4
 have c:=ilin (p:=q) h1 h2
 rw [Int.mul_comm q,Int.mul_comm q,Int.mul_comm q] at c
 omega
theorem rmul_in {x:Bx} {p q:Rat} (h1:(x.a:Rat) ≤ p) (h2:p ≤ x.b) (h3:(x.c:Rat) ≤ q) (h4:q ≤ x.d):(mLo x:Rat) ≤ p * q ∧ p * q ≤ (mHi x:Rat):=by
 have l:=mLo_le x
 have u:=le_mHi x
 have cst:∀ {m s t:Int},m ≤ s * t → (m:Rat) ≤ s * t:=fun h => by exact_mod_cast h
 have cst':∀ {m s t:Int},s * t ≤ m → (s:Rat) * t ≤ m:=fun h => by exact_mod_cast h
 have l1:=cst l.1
 have l2:=cst l.2.1
 have l3:=cst l.2.2.1
 have l4:=cst l.2.2.2
 have u1:=cst' u.1
 have u2:=cst' u.2.1
 have u3:=cst' u.2.2.1
 have u4:=cst' u.2.2.2
 have a:=rlin (p:=x.a) h3 h4
 have b:=rlin (p:=x.b) h3 h4
 have c:=rlin (p:=q) h1 h2
 rw [Rat.mul_comm q,Rat.mul_comm q,Rat.mul_comm q] at c
 grind
theorem isq_in {l u x:Int} (h1:l ≤ x) (h2:x ≤ u):sqLo l u ≤ x * x ∧ x * x ≤ sqHi l u:=by
 have a:=sq_nn x
 have b:=ilin (p:=x) h1 h2
 have c:=ilin (p:=l) h1 h2
 have d:=ilin (p:=u) h1 h2
 have e:=Int.mul_comm l x
 have f:=Int.mul_comm u x
 have g:=sq_nn l
 have i:=sq_nn u
 refine ⟨?_,by have:=Cov.sq_le_max h1 h2; unfold sqHi; omega⟩
 unfold sqLo
 split
 · exact a
 · rename_i hn
   by_cases k:0 ≤ l
   · have:l * l ≤ x * x:=Int.mul_le_mul h1 h1 k (by omega)
     omega
   · have:u * u ≤ x * x:=by
       have:=Int.mul_le_mul (a:=-u) (b:=-u) (c:=-x) (d:=-x) (by omega) (by omega) (by omega) (by omega)
       rwa [Int.neg_mul_neg,Int.neg_mul_neg] at this
     omega
theorem rsq_in {l u:Int} {x:Rat} (h1:(l:Rat) ≤ x) (h2:x ≤ u):(sqLo l u:Rat) ≤ x * x ∧ x * x ≤ (sqHi l u:Rat):=by
 have cst:∀ {m s:Int},m ≤ s * s → (m:Rat) ≤ s * s:=fun h => by exact_mod_cast h
 have cst':∀ {m s:Int},s * s ≤ m → (s:Rat) * s ≤ m:=fun h => by exact_mod_cast h
 have hi1:(l:Rat) * l ≤ sqHi l u:=cst' (by unfold sqHi; omega)
 have hi2:(u:Rat) * u ≤ sqHi l u:=cst' (by unfold sqHi; omega)
 have a:=Cov.sq_nn x
 constructor
 · by_cases hc:l ≤ 0 ∧ 0 ≤ u
   · have:sqLo l u=0:=by unfold sqLo; rw [if_pos hc]
     rw [this]
     exact a
   · by_cases k:0 ≤ l
     · have:sqLo l u ≤ l * l:=by unfold sqLo; rw [if_neg hc]; omega
       have h3:=cst this
       have k':(0:Rat) ≤ l:=by exact_mod_cast k
       have b:=Rat.mul_le_mul_of_nonneg_left h1 k'
       have c:=Rat.mul_le_mul_of_nonneg_right h1 (by grind:0 ≤ x)
       grind
     · have:sqLo l u ≤ u * u:=by unfold sqLo; rw [if_neg hc]; omega
       have h3:=cst this
       have k':(u:Rat) ≤ 0:=by exact_mod_cast (by omega:u ≤ 0)
       have b:=Rat.mul_le_mul_of_nonneg_left h2 (by grind:0 ≤ -(u:Rat))
       have c:=Rat.mul_le_mul_of_nonneg_right h2 (by grind:0 ≤ -x)
       grind
 · rcases Rat.le_total (a:=0) (b:=x) with k | k
   · have b:=Rat.mul_le_mul_of_nonneg_left h2 k
     have c:=Rat.mul_le_mul_of_nonneg_right h2 (by grind:0 ≤ (u:Rat))
     grind
   · have b:=Rat.mul_le_mul_of_nonneg_left h1 (by grind:0 ≤ -x)
     have c:=Rat.mul_le_mul_of_nonneg_right h1 (by grind:0 ≤ -(l:Rat))
     grind
def InB (x y:Rat) (z:Bx):Prop:=(z.a:Rat) ≤ x ∧ x ≤ z.b ∧ (z.c:Rat) ≤ y ∧ y ≤ z.d
theorem cei_ge (a:Int) {k:Int} (hk:0 < k):a ≤ k * cei a k:=by
 unfold cei
 have:=Int.mul_ediv_self_le (x:=-a) (k:=k) (by omega)
 rw [Int.mul_neg]
 omega
theorem ediv_le (a:Int) {k:Int} (hk:0 < k):k * (a / k) ≤ a:=Int.mul_ediv_self_le (by omega)
theorem cst_lo {c q a:Int} (h:c * q ≤ a):(c:Rat) * (q:Rat) ≤ a:=by exact_mod_cast h
theorem cst_lt {m n:Int} (h:m < n):(m:Rat) < (n:Rat):=by exact_mod_cast h
theorem cst_hi {c q a:Int} (h:a ≤ c * q):(a:Rat) ≤ (c:Rat) * (q:Rat):=by exact_mod_cast h
theorem InB.next {c z n:Bx} {px py:Rat} {k:Nat} (hp:InB px py c) (h:InB (zr px py k).1 (zr px py k).2 z) (hn:Bx.next c z=some n):InB (zr px py (k + 1)).1 (zr px py (k + 1)).2 n:=by
 unfold Bx.next at hn
 split at hn
 · split at hn
   · cases hn
     obtain ⟨a1,a2,a3,a4⟩:=h
     obtain ⟨p1,p2,p3,p4⟩:=hp
     obtain ⟨g1,g2⟩:=Cov.zr_one px py k
     have s1:=rsq_in a1 a2
     have s2:=rsq_in a3 a4
     have m:=rmul_in a1 a2 a3 a4
     have e:((16777216:Int):Rat)=16777216:=rfl
     have f1:=cst_lo (ediv_le (sqLo z.a z.b - sqHi z.c z.d) (k:=16777216) (by decide))
     have f2:=cst_hi (cei_ge (sqHi z.a z.b - sqLo z.c z.d) (k:=16777216) (by decide))
     have f3:=cst_lo (ediv_le (2 * mLo z) (k:=16777216) (by decide))
     have f4:=cst_hi (cei_ge (2 * mHi z) (k:=16777216) (by decide))
     rw [e] at f1 f2 f3 f4
     unfold InB Bx.add Bx.sq
     dsimp only
     have c1:∀ x y:Int,((x - y:Int):Rat)=x - y:=fun x y => by simp
     have c2:∀ x:Int,((2 * x:Int):Rat)=2 * x:=fun x => by simp
     have c3:∀ x y:Int,((x + y:Int):Rat)=x + y:=fun x y => by simp
     rw [c1] at f1 f2
     rw [c2] at f3 f4
     rw [c3,c3,c3,c3]
     generalize (zr px py k).1=X at *
     generalize (zr px py k).2=Y at *
     generalize (zr px py (k + 1)).1=X' at *
     generalize (zr px py (k + 1)).2=Y' at *
     refine ⟨?_,?_,?_,?_⟩ <;> grind
   · cases hn
 · cases hn
theorem InB.orbit {c:Bx} {px py:Rat} (hp:InB px py c):∀ {k:Nat} {z:Bx},orbB c k=some z → InB (zr px py k).1 (zr px py k).2 z
 | 0,z,h => by
   cases h
   refine ⟨?_,?_,?_,?_⟩ <;> exact Rat.le_refl
 | k + 1,z,h => by
   unfold orbB at h
   cases ho:orbB c k with
   | none => rw [ho] at h; cases h
   | some y =>
     rw [ho] at h
     exact hp.next (hp.orbit ho) h
theorem Fine.no_out {c:Bx} {px py:Int} (h1:c.a ≤ px) (h2:px ≤ c.b) (h3:c.c ≤ py) (h4:py ≤ c.d) (hf:Fine px py) {M:Nat} (hM:M ≤ 31):whB c M=false:=by
 rw [Bool.eq_false_iff]
 intro hw
 unfold whB at hw
 rw [List.any_eq_true] at hw
 obtain ⟨k,hk,ho⟩:=hw
 rw [List.mem_range] at hk
 unfold outB at ho
 split at ho
 · rename_i z hz
   have hp:InB (px:Rat) (py:Rat) c:=⟨by exact_mod_cast h1,by exact_mod_cast h2,by exact_mod_cast h3,by exact_mod_cast h4⟩
   obtain ⟨a1,a2,a3,a4⟩:=hp.orbit hz
   obtain ⟨-,f⟩:=hf k (by omega)
   have s1:=rsq_in a1 a2
   have s2:=rsq_in a3 a4
   have hn:(1125899906842624:Int) < nLo z:=by simpa using ho
   have hn':((1125899906842624:Int):Rat) < (nLo z:Rat):=cst_lt hn
   have e:(nLo z:Rat)=sqLo z.a z.b + sqLo z.c z.d:=by unfold nLo; simp
   rw [e] at hn'
   have e2:((1125899906842624:Int):Rat)=33554432 * 33554432:=by decide +kernel
   rw [e2] at hn'
   grind
 · cases ho
end Go.Proofs.YthhfljldbfgpcaaGreatDoor
end

section
namespace Go.Proofs.YthhfljldbfgpcaaGreatDoor
open Cov (Le zr Fine Inn)
structure Sub (y x:Bx):Prop where
 a:x.a ≤ y.a
 b:y.b ≤ x.b
 c:x.c ≤ y.c
 d:y.d ≤ x.d
 h:y.a ≤ y.b
 v:y.c ≤ y.d
theorem ediv_mono {a b k:Int} (hk:0 < k) (h:a ≤ b):a / k ≤ b / k:=Int.ediv_le_ediv hk h
theorem cei_mono {a b k:Int} (hk:0 < k) (h:a ≤ b):cei a k ≤ cei b k:=by
 unfold cei
 have:=ediv_mono hk (show -b ≤ -a by omega)
 omega
theorem le_cei {a b k:Int} (hk:0 < k) (h:a ≤ b):a / k ≤ cei b k:=by
 have h1:=ediv_le a hk
 have h2:=cei_ge b hk
 exact Int.le_of_mul_le_mul_left (by omega) hk
theorem sqHi_mono {l u l' u':Int} (h1:l ≤ l') (h2:l' ≤ u') (h3:u' ≤ u):sqHi l' u' ≤ sqHi l u:=by
 have a:=(isq_in h1 (show l' ≤ u by omega)).2
 have b:=(isq_in (show l ≤ u' by omega) h3).2
 show max (l' * l') (u' * u') ≤ _
 omega
theorem sqLo_mono {l u l' u':Int} (h1:l ≤ l') (h2:l' ≤ u') (h3:u' ≤ u):sqLo l u ≤ sqLo l' u':=by
 have a:=(isq_in h1 (show l' ≤ u by omega)).1
 have b:=(isq_in (show l ≤ u' by omega) h3).1
 by_cases h:l' ≤ 0 ∧ 0 ≤ u'
 · have e:sqLo l' u'=0:=by unfold sqLo; rw [if_pos h]
   have g:sqLo l u=0:=by unfold sqLo; rw [if_pos ⟨by omega,by omega⟩]
   omega
 · have e:sqLo l' u'=min (l' * l') (u' * u'):=by unfold sqLo; rw [if_neg h]
   omega
theorem sqLo_le_hi {l u:Int} (h:l ≤ u):sqLo l u ≤ sqHi l u:=by
 have a:=isq_in (Int.le_refl l) h
 omega
theorem Sub.mul {y x:Bx} (s:Sub y x):mLo x ≤ mLo y ∧ mHi y ≤ mHi x ∧ mLo y ≤ mHi y:=by
 obtain ⟨a,b,c,d,h,v⟩:=s
 have p1:=imul_in (x:=x) (p:=y.a) (q:=y.c) a (by omega) c (by omega)
 have p2:=imul_in (x:=x) (p:=y.a) (q:=y.d) a (by omega) (by omega) d
 have p3:=imul_in (x:=x) (p:=y.b) (q:=y.c) (by omega) b c (by omega)
 have p4:=imul_in (x:=x) (p:=y.b) (q:=y.d) (by omega) b (by omega) d
 have p5:=imul_in (x:=y) (p:=y.a) (q:=y.c) (Int.le_refl _) h (Int.le_refl _) v
 refine ⟨?_,?_,by omega⟩
 · show _ ≤ min (min (y.a * y.c) (y.a * y.d)) (min (y.b * y.c) (y.b * y.d))
   omega
 · show max (max (y.a * y.c) (y.a * y.d)) (max (y.b * y.c) (y.b * y.d)) ≤ _
   omega
theorem Sub.sq {y x:Bx} (s:Sub y x):Sub y.sq x.sq:=by
 obtain ⟨m1,m2,m3⟩:=s.mul
 obtain ⟨a,b,c,d,h,v⟩:=s
 have l1:=sqLo_mono a h b
 have u1:=sqHi_mono a h b
 have l2:=sqLo_mono c v d
 have u2:=sqHi_mono c v d
 have k1:=sqLo_le_hi h
 have k2:=sqLo_le_hi v
 exact ⟨ediv_mono (by decide) (by omega),cei_mono (by decide) (by omega),ediv_mono (by decide) (by omega),cei_mono (by decide) (by omega),le_cei (by decide) (by omega),le_cei (by decide) (by omega)⟩
theorem Sub.add {y x y' x':Bx} (s:Sub y x) (t:Sub y' x'):Sub (y.add y') (x.add x'):=by
 obtain ⟨a,b,c,d,h,v⟩:=s
 obtain ⟨a',b',c',d',h',v'⟩:=t
 exact ⟨by show x.a + x'.a ≤ y.a + y'.a; omega,by show y.b + y'.b ≤ x.b + x'.b; omega,by show x.c + x'.c ≤ y.c + y'.c; omega,by show y.d + y'.d ≤ x.d + x'.d; omega,by show y.a + y'.a ≤ y.b + y'.b; omega,by show y.c + y'.c ≤ y.d + y'.d; omega⟩
theorem Sub.ok {y x:Bx} (s:Sub y x) (hx:x.ok=true):y.ok=true:=by
 have h:=Bx.bd hx
 obtain ⟨a,b,c,d,h',v⟩:=s
 unfold Bx.ok boxOK inB
 simp only [Bool.and_eq_true,decide_eq_true_eq]
 omega
theorem Sub.next {c c' z z' n:Bx} (s:Sub c' c) (t:Sub z' z) (h:Bx.next c z=some n):∃ n',Bx.next c' z'=some n' ∧ Sub n' n:=by
 unfold Bx.next at h
 split at h
 · rename_i h1
   split at h
   · rename_i h2
     cases h
     have t1:=t.sq
     have t2:=t1.add s
     refine ⟨_,?_,t2⟩
     unfold Bx.next
     rw [if_pos (t1.ok h1),if_pos (t2.ok h2)]
   · cases h
 · cases h
theorem Sub.orbit {c c':Bx} (s:Sub c' c):∀ {k:Nat} {z:Bx},orbB c k=some z → ∃ z',orbB c' k=some z' ∧ Sub z' z
 | 0,z,h => by
   cases h
   exact ⟨_,rfl,by constructor <;> exact Int.le_refl _⟩
 | k + 1,z,h => by
   unfold orbB at h
   cases ho:orbB c k with
   | none => rw [ho] at h; cases h
   | some y =>
     rw [ho] at h
     obtain ⟨y',h1,h2⟩:=s.orbit ho
     obtain ⟨n',h3,h4⟩:=s.next h2 h
     refine ⟨n',?_,h4⟩
     unfold orbB
     rw [h1]
     exact h3
theorem Sub.wh {c c':Bx} (s:Sub c' c) {M:Nat} (h:whB c M=true):whB c' M=true:=by
 unfold whB at h ⊢
 rw [List.any_eq_true] at h ⊢
 obtain ⟨k,hk,ho⟩:=h
 refine ⟨k,hk,?_⟩
 unfold outB at ho ⊢
 split at ho
 · rename_i z hz
   obtain ⟨z',h1,h2⟩:=s.orbit hz
   rw [h1]
   obtain ⟨a,b,c,d,h',v⟩:=h2
   have l1:=sqLo_mono a h' b
   have l2:=sqLo_mono c v d
   have ho:1125899906842624 < sqLo z.a z.b + sqLo z.c z.d:=of_decide_eq_true ho
   have:1125899906842624 < sqLo z'.a z'.b + sqLo z'.c z'.d:=by omega
   exact decide_eq_true this
 · cases ho
theorem Sub.coarse {y x:Bx} (s:Sub y x):Sub y.coarse x.coarse:=by
 obtain ⟨a,b,c,d,h,v⟩:=s
 exact ⟨ediv_mono (by decide) a,cei_mono (by decide) b,ediv_mono (by decide) c,cei_mono (by decide) d,le_cei (by decide) h,le_cei (by decide) v⟩
theorem Sub.disc {y x:Bx} (s:Sub y x) (h:discB x ≤ 0):discB y ≤ 0:=by
 obtain ⟨a,b,c,d,h',v⟩:=s.coarse
 have u1:=sqHi_mono (l:=x.coarse.a + 4096) (u:=x.coarse.b + 4096) (l':=y.coarse.a + 4096) (u':=y.coarse.b + 4096) (by omega) (by omega) (by omega)
 have u2:=sqHi_mono c v d
 unfold discB at h ⊢
 omega
theorem card_mono {A E D F G A' E' D' F' G' K:Int} (hK:0 ≤ K) (hA:A ≤ A') (hE:E ≤ E') (hD:D' ≤ D) (hF:F' ≤ F) (hG:G' ≤ G) (p1:0 ≤ A) (p2:0 ≤ E) (p3:A' ≤ D') (p4:E' ≤ F') :
   (if G' < 0 then A' + E' else D' + F') * G' - E' * K ≤ (if G < 0 then A + E else D + F) * G - E * K:=by
 have hk:=Int.mul_le_mul_of_nonneg_right hE hK
 by_cases h:G < 0
 · rw [if_pos h,if_pos (show G' < 0 by omega)]
   have h1:=Int.mul_le_mul_of_nonpos_right (show A + E ≤ A' + E' by omega) (show G' ≤ 0 by omega)
   have h2:=Int.mul_le_mul_of_nonneg_left hG (show 0 ≤ A + E by omega)
   omega
 · rw [if_neg h]
   have h0:0 ≤ (D + F) * G:=Int.mul_nonneg (by omega) (by omega)
   by_cases h':G' < 0
   · rw [if_pos h']
     have:(A' + E') * G' ≤ 0:=Int.mul_nonpos_of_nonneg_of_nonpos (by omega) (by omega)
     omega
   · rw [if_neg h']
     have:(D' + F') * G' ≤ (D + F) * G:=Int.mul_le_mul (by omega) hG (by omega) (by omega)
     omega
theorem sqLo_nn (l u:Int):0 ≤ sqLo l u:=by
 have a:=sq_nn l
 have b:=sq_nn u
 unfold sqLo
 split <;> omega
theorem Sub.card {y x:Bx} (s:Sub y x):cardB y ≤ cardB x:=by
 obtain ⟨a,b,c,d,h',v⟩:=s.coarse
 have u1:=sqHi_mono (l:=x.coarse.a - 1024) (u:=x.coarse.b - 1024) (l':=y.coarse.a - 1024) (u':=y.coarse.b - 1024) (by omega) (by omega) (by omega)
 have l1:=sqLo_mono (l:=x.coarse.a - 1024) (u:=x.coarse.b - 1024) (l':=y.coarse.a - 1024) (u':=y.coarse.b - 1024) (by omega) (by omega) (by omega)
 have u2:=sqHi_mono c v d
 have l2:=sqLo_mono c v d
 have k1:=sqLo_le_hi (l:=y.coarse.a - 1024) (u:=y.coarse.b - 1024) (by omega)
 have k2:=sqLo_le_hi v
 unfold cardB
 refine card_mono (by decide) l1 l2 u1 u2 ?_ (sqLo_nn _ _) (sqLo_nn _ _) k1 k2
 unfold cardG
 omega
theorem coarse_in {x:Bx} {p q:Int} (h1:x.a ≤ p) (h2:p ≤ x.b) (h3:x.c ≤ q) (h4:q ≤ x.d):x.coarse.a * 4096 ≤ p ∧ p ≤ x.coarse.b * 4096 ∧ x.coarse.c * 4096 ≤ q ∧ q ≤ x.coarse.d * 4096:=by
 have a:=ediv_le x.a (k:=4096) (by decide)
 have b:=cei_ge x.b (k:=4096) (by decide)
 have c:=ediv_le x.c (k:=4096) (by decide)
 have d:=cei_ge x.d (k:=4096) (by decide)
 unfold Bx.coarse
 dsimp only
 omega
theorem sqHi_scale (l u:Int):sqHi (l * 4096) (u * 4096)=sqHi l u * 16777216:=by
 unfold sqHi
 have e:∀ x:Int,x * 4096 * (x * 4096)=x * x * 16777216:=fun x => by rw [Int.mul_assoc,Int.mul_left_comm 4096,← Int.mul_assoc]; rfl
 rw [e,e]
 omega
theorem sqLo_scale (l u:Int):sqLo (l * 4096) (u * 4096)=sqLo l u * 16777216:=by
 have e:∀ x:Int,x * 4096 * (x * 4096)=x * x * 16777216:=fun x => by rw [Int.mul_assoc,Int.mul_left_comm 4096,← Int.mul_assoc]; rfl
 unfold sqLo
 by_cases h:l ≤ 0 ∧ 0 ≤ u
 · rw [if_pos h,if_pos ⟨by omega,by omega⟩]; rfl
 · rw [if_neg h,if_neg (by omega),e,e]
   omega
theorem disc_inn {x:Bx} {p q:Int} (h1:x.a ≤ p) (h2:p ≤ x.b) (h3:x.c ≤ q) (h4:q ≤ x.d) (h:discB x ≤ 0):Inn p q:=by
 obtain ⟨a,b,c,d⟩:=coarse_in h1 h2 h3 h4
 have s1:=(isq_in (l:=(x.coarse.a + 4096) * 4096) (u:=(x.coarse.b + 4096) * 4096) (x:=p + 16777216) (by omega) (by omega)).2
 have s2:=(isq_in c d).2
 rw [sqHi_scale] at s1 s2
 unfold discB at h
 right
 omega
theorem card_inn {x:Bx} {p q:Int} (h1:x.a ≤ p) (h2:p ≤ x.b) (h3:x.c ≤ q) (h4:q ≤ x.d) (h:cardB x ≤ 0):Inn p q:=by
 obtain ⟨a,b,c,d⟩:=coarse_in h1 h2 h3 h4
 have s1:=isq_in (l:=(x.coarse.a - 1024) * 4096) (u:=(x.coarse.b - 1024) * 4096) (x:=p - 4194304) (by omega) (by omega)
 have s2:=isq_in c d
 rw [sqHi_scale,sqLo_scale] at s1 s2
 have n1:=sqLo_nn (x.coarse.a - 1024) (x.coarse.b - 1024)
 have n2:=sqLo_nn x.coarse.c x.coarse.d
 have hb:p - 4194304 ≤ (x.coarse.b - 1024) * 4096:=by omega
 unfold cardB cardG at h
 left
 generalize sqHi (x.coarse.a - 1024) (x.coarse.b - 1024)=D at *
 generalize sqHi x.coarse.c x.coarse.d=F at *
 generalize sqLo (x.coarse.a - 1024) (x.coarse.b - 1024)=A at *
 generalize sqLo x.coarse.c x.coarse.d=E at *
 generalize x.coarse.b - 1024=B at *
 generalize p - 4194304=u at *
 generalize hU:u * u=uu at *
 generalize hV:q * q=qq at *
 have k:=card_mono (A:=A * 16777216) (E:=E * 16777216) (D:=D * 16777216) (F:=F * 16777216) (G:=(D + F + B * 4096) * 16777216) (A':=uu) (E':=qq) (D':=uu) (F':=qq) (G':=uu + qq + u * 16777216) (K:=70368744177664)
   (by decide) (by omega) (by omega) (by omega) (by omega) (by omega) (by omega) (by omega) (Int.le_refl _) (Int.le_refl _)
 have e:(if uu + qq + u * 16777216 < 0 then uu + qq else uu + qq)=uu + qq:=by split <;> rfl
 rw [e] at k
 have z:(if (D + F + B * 4096) * 16777216 < 0 then A * 16777216 + E * 16777216 else D * 16777216 + F * 16777216) * ((D + F + B * 4096) * 16777216) - E * 16777216 * 70368744177664 =
     ((if D + F + B * 4096 < 0 then A + E else D + F) * (D + F + B * 4096) - E * 4194304) * 281474976710656:=by
   have sc:∀ x y g:Int,(x * 16777216 + y * 16777216) * (g * 16777216)=(x + y) * g * 281474976710656:=fun x y g => by
     rw [← Int.add_mul,Int.mul_assoc,Int.mul_left_comm 16777216,← Int.mul_assoc]
     rfl
   by_cases hg:D + F + B * 4096 < 0
   · rw [if_pos hg,if_pos (by omega),sc]
     omega
   · rw [if_neg hg,if_neg (by omega),sc]
     omega
 rw [z] at k
 omega
theorem Sub.state {y x:Bx} (s:Sub y x) (hx:x.ok=true) {M:Nat} (hM:M ≤ 31) (h:stB x M ≠ 0):stB y M=stB x M:=by
 unfold stB at h ⊢
 by_cases h1:cardB x ≤ 0 ∨ discB x ≤ 0
 · rw [if_pos h1]
   rw [if_pos (h1.imp (fun g => Int.le_trans s.card g) fun g => s.disc g)]
 · rw [if_neg h1] at h ⊢
   by_cases h2:whB x M=true
   · rw [if_pos h2]
     rw [if_neg ?_,if_pos (s.wh h2)]
     intro h3
     have hb:=Bx.bd hx
     have hi:Inn y.a y.c:=h3.elim (fun g => card_inn (Int.le_refl _) s.h (Int.le_refl _) s.v g) (fun g => disc_inn (Int.le_refl _) s.h (Int.le_refl _) s.v g)
     have hf:=Cov.fine_of_inn (by have:=s.a; omega) (by have:=s.b; have:=s.h; omega) (by have:=s.c; omega) (by have:=s.d; have:=s.v; omega) hi
     have:=Fine.no_out (c:=x) s.a (by have:=s.b; have:=s.h; omega) s.c (by have:=s.d; have:=s.v; omega) hf hM
     rw [h2] at this
     cases this
   · rw [if_neg h2] at h
     exact absurd rfl h
end Go.Proofs.YthhfljldbfgpcaaGreatDoor
end

section
namespace Go.Proofs.YthhfljldbfgpcaaGreatDoor
open Go.RowKit Flo
def dv (x:Int) (k:Nat):Rat:=(x:Rat) / ((2 ^ k:Nat):Rat)
theorem pow_ne (k:Nat):((2 ^ k:Nat):Rat) ≠ 0:=by
 have:(2 ^ k:Nat) ≠ 0:=by have:=Nat.two_pow_pos k; omega
 exact_mod_cast this
theorem pow_add' (a b:Nat):((2 ^ (a + b):Nat):Rat)=((2 ^ a:Nat):Rat) * ((2 ^ b:Nat):Rat):=by
 rw [Nat.pow_add]
 exact Rat.natCast_mul _ _
theorem dv_up (x:Int) (k m:Nat):dv (x * (2 ^ m:Nat)) (k + m)=dv x k:=by
 unfold dv
 rw [pow_add']
 have e:((x * (2 ^ m:Nat):Int):Rat)=(x:Rat) * ((2 ^ m:Nat):Rat):=by rw [Rat.intCast_mul]; rfl
 rw [e]
 have h1:=pow_ne m
 have h2:=pow_ne k
 generalize ((2 ^ m:Nat):Rat)=p at *
 generalize ((2 ^ k:Nat):Rat)=q at *
 grind
theorem low_dv {X Y:Int} {d:Nat} {a b:Int} {k:Nat} (h:lowT X Y d=(a,b,k)):dv a k=dv X d ∧ dv b k=dv Y d:=by
 have hl:=lowT_is X Y d
 rw [h] at hl
 obtain ⟨h1,h2,h3,-,-,-⟩:=hl
 dsimp only at h1 h2 h3
 have e:k + (d - k)=d:=by omega
 rw [← h2,← h3]
 have a1:=dv_up a k (d - k)
 have a2:=dv_up b k (d - k)
 rw [e] at a1 a2
 exact ⟨a1.symm,a2.symm⟩
theorem sq_dv (x y:Int) (k:Nat):dv (x * x - y * y) (2 * k)=dv x k * dv x k - dv y k * dv y k ∧ dv (2 * x * y) (2 * k)=2 * (dv x k * dv y k):=by
 unfold dv
 rw [show 2 * k=k + k from by omega,pow_add']
 have h2:=pow_ne k
 have e1:((x * x - y * y:Int):Rat)=(x:Rat) * x - y * y:=by simp
 have e2:((2 * x * y:Int):Rat)=2 * (x:Rat) * y:=by simp
 rw [e1,e2]
 generalize ((2 ^ k:Nat):Rat)=q at *
 constructor <;> grind
theorem add_dv (x u:Int) {k l:Nat} (h:l ≤ k):dv (x + u * (2 ^ (k - l):Nat)) k=dv x k + dv u l:=by
 have e:=dv_up u l (k - l)
 rw [show l + (k - l)=k from by omega] at e
 rw [← e]
 unfold dv
 rw [Rat.intCast_add]
 have h2:=pow_ne k
 generalize ((2 ^ k:Nat):Rat)=q at *
 generalize ((u * (2 ^ (k - l):Nat):Int):Rat)=z at *
 grind
def Told (A B:Rat) (e:Ending):Prop:=(∃ (a b:Int) (k:Nat),e=.returned (.tuple #[.agg #[.int .i64 a,.int .i64 b,.int .i64 k],.bool true]) ∧ dyadB a b k=true ∧ dv a k=A ∧ dv b k=B) ∨ e=.returned (.tuple #[.agg #[.int .i64 0,.int .i64 0,.int .i64 0],.bool false])
theorem told_low {X Y:Int} {d:Nat} {A B:Rat} (h1:dv X d=A) (h2:dv Y d=B):Told A B (.returned (dyR (lowT X Y d))):=by
 obtain ⟨a,b,k,hr⟩:∃ a b k,lowT X Y d=(a,b,k):=⟨_,_,_,rfl⟩
 obtain ⟨g1,g2⟩:=low_dv hr
 rw [hr]
 cases hb:dyadB a b k with
 | true => exact .inl ⟨a,b,k,by rw [dyR_yes hb],hb,g1.trans h1,g2.trans h2⟩
 | false => exact .inr (by rw [dyR_no hb])
theorem told_add {x y:Int} {k:Nat} {u v:Int} {l:Nat} (hv:dyadB x y k=true) (h:l ≤ k):Told (dv x k + dv u l) (dv y k + dv v l) (.returned (addV x y k u v l)):=by
 unfold addV
 by_cases h1:u=0 ∧ v=0 ∧ l=0
 · rw [if_pos h1]
   obtain ⟨rfl,rfl,rfl⟩:=h1
   have z:dv 0 0=0:=by unfold dv; simp; decide +kernel
   exact .inl ⟨x,y,k,rfl,hv,by rw [z]; grind,by rw [z]; grind⟩
 · rw [if_neg h1]
   by_cases h2:31 < k - l
   · rw [if_pos h2]
     exact .inr rfl
   · rw [if_neg h2]
     exact told_low (add_dv x u h) (add_dv y v h)
theorem dyadAdd_told (x y:Int) (k:Nat) (u v:Int) (l:Nat) (hv:dyadB x y k=true) (hv':dyadB u v l=true) (w:World) :
   Calls Vp.prog 44 #[.agg #[.int .i64 x,.int .i64 y,.int .i64 k],.agg #[.int .i64 u,.int .i64 v,.int .i64 l]] w fun e w' => Told (dv x k + dv u l) (dv y k + dv v l) e ∧ Below w.heap.size w w':=by
 by_cases h:l ≤ k
 · refine (dyadAdd_ge x y k u v l hv hv' h w).mono ?_
   rintro e w' ⟨rfl,hb⟩
   exact ⟨told_add hv h,hb⟩
 · refine (dyadAdd_lt u v l x y k hv' hv (by omega) w).mono ?_
   rintro e w' ⟨rfl,hb⟩
   refine ⟨?_,hb⟩
   have:=told_add (u:=x) (v:=y) (l:=k) hv' (by omega)
   rw [Rat.add_comm (dv u l),Rat.add_comm (dv v l)] at this
   exact this
theorem dyadSquare_told (x y:Int) (k:Nat) (hv:dyadB x y k=true) (w:World) :
   Calls Vp.prog 43 #[.agg #[.int .i64 x,.int .i64 y,.int .i64 k]] w fun e w' => Told (dv x k * dv x k - dv y k * dv y k) (2 * (dv x k * dv y k)) e ∧ Below w.heap.size w w':=by
 refine (dyadSquare_is x y k hv w).mono ?_
 rintro e w' ⟨rfl,hb⟩
 exact ⟨told_low (sq_dv x y k).1 (sq_dv x y k).2,hb⟩
def zq (a b:Rat):Nat → Rat × Rat
 | 0 => (0,0)
 | k + 1 => ((zq a b k).1 * (zq a b k).1 - (zq a b k).2 * (zq a b k).2 + a,2 * ((zq a b k).1 * (zq a b k).2) + b)
theorem zq_zr (a b:Rat):∀ k,Cov.zr (16777216 * a) (16777216 * b) k=(16777216 * (zq a b k).1,16777216 * (zq a b k).2)
 | 0 => by simp [Cov.zr,zq]
 | k + 1 => by
   have h:=zq_zr a b k
   unfold Cov.zr zq
   rw [h]
   dsimp only
   generalize (zq a b k).1=x
   generalize (zq a b k).2=y
   refine Prod.ext ?_ ?_
   · show (16777216 * x * (16777216 * x) - 16777216 * y * (16777216 * y)) / 16777216 + 16777216 * a=16777216 * (x * x - y * y + a)
     grind
   · show 2 * (16777216 * x * (16777216 * y)) / 16777216 + 16777216 * b=16777216 * (2 * (x * y) + b)
     grind
theorem cmpI_le {x y:Int} (h:x ≤ y):cmpI x y ≤ 0:=by
 unfold cmpI
 split
 · decide
 · rw [if_neg (by omega)]; decide
theorem norm_of {p q:Int} (hf:Cov.Fine p q) {i:Nat} (hi:i < 40) {u v x y:Int} {l k:Nat} (h1:(p:Rat)=16777216 * dv u l) (h2:(q:Rat)=16777216 * dv v l) (h3:dv x k=(zq (dv u l) (dv v l) i).1) (h4:dv y k=(zq (dv u l) (dv v l) i).2):normS x y k ≤ 0:=by
 unfold normS
 split
 · decide
 · obtain ⟨-,f⟩:=hf i hi
   rw [h1,h2,zq_zr] at f
   dsimp only at f
   rw [← h3,← h4] at f
   apply cmpI_le
   have hk:=pow_ne k
   have e1:(x:Rat)=dv x k * ((2 ^ k:Nat):Rat):=by unfold dv; grind
   have e2:(y:Rat)=dv y k * ((2 ^ k:Nat):Rat):=by unfold dv; grind
   have e3:((4 * (2 ^ (2 * k):Nat):Int):Rat)=4 * (((2 ^ k:Nat):Rat) * ((2 ^ k:Nat):Rat)):=by
     rw [show 2 * k=k + k from by omega,Rat.intCast_mul,← pow_add']
     rfl
   have key:((x * x + y * y:Int):Rat) ≤ ((4 * (2 ^ (2 * k):Nat):Int):Rat):=by
     rw [e3]
     have e4:((x * x + y * y:Int):Rat)=(x:Rat) * x + y * y:=by simp
     rw [e4,e1,e2]
     have hp:=Cov.sq_nn ((2 ^ k:Nat):Rat)
     generalize ((2 ^ k:Nat):Rat)=p at *
     generalize dv x k=X at *
     generalize dv y k=Y at *
     have g:X * X + Y * Y ≤ 4:=by grind
     have:=Rat.mul_le_mul_of_nonneg_right g hp
     grind
   exact_mod_cast key
end Go.Proofs.YthhfljldbfgpcaaGreatDoor
end

section
namespace Go.Proofs.YthhfljldbfgpcaaGreatDoor
open Go.RowKit
theorem run_convert_nan64 (src dst:TypeId) (hs:(Vp.prog.underlying src).isSome=true) (hd:Vp.prog.underlying dst=some (.float .f64)) {b:Nat} (h:Flo.nan .f32 b=true) (w:World) :
   ∃ y,(convert src dst (.float .f32 b)).run Vp.prog w=.ok (.float .f64 y) w.drew ∧ Flo.nan .f64 y=true :=
 ⟨_,Flo.run_convert_nan src dst .f32 .f64 b (by decide) hs hd h w,Flo.nanC_nan _ _ _⟩
set_option maxHeartbeats 400000 in
theorem alikeFloat_refl (a:Nat) (h:Flo.nan .f64 a=false) (w:World) :
   Calls Vp.prog 35 #[.float .f64 a,.float .f64 a] w fun e w' => e=.returned (.bool true) ∧ w=w':=by
 obtain ⟨r,hr,hr2⟩:=Flo.quo_number Flo.one64 h
 have hs:(FloatKind.f64.format.order a a == some .eq)=true:=by rw [Flo.order_self h]; rfl
 have hs':(FloatKind.f64.format.order a a != some .eq)=false:=by rw [Flo.order_self h]; rfl
 have hq:=fun w => run_float_arith (P:=Vp.prog) w .quo 68 .f64 _ _ _ hr
 have hz:(FloatKind.f64.format.order r r == some .eq)=true:=by rw [Flo.order_self hr2]; rfl
 clear h hr hr2
 go_enter Vp.func35,Tryz.ntmps35
 go_wp2
 go_ret
 exact ⟨rfl,rfl⟩
set_option maxHeartbeats 400000 in
theorem sameSmall_refl (x:Nat) (hx:x < 4294967296) (h:Flo.nan .f32 x=false) (w:World) :
   Calls Vp.prog 11 #[.float .f32 x,.float .f32 x] w fun e w' => e=.returned (.bool true) ∧ w=w':=by
 obtain ⟨y,hy,hy2⟩:=Flo.widen_any (by rw [Flo.pow32]; exact hx) h
 have hc:=fun w => run_convert_float_float (P:=Vp.prog) w 42 68 .f32 .f64 x y (by kernel_rfl) (Vp.und Tryz.underlying68) hy
 have H:=Lib.hid (alikeFloat_refl y hy2)
 clear hy hy2 h
 go_enter Vp.func11,Tryz.ntmps11
 go_wp2_with (go_at_call 35; refine (H.out _).mono ?_; rintro e w' ⟨rfl,rfl⟩)
 go_ret
 exact ⟨rfl,rfl⟩
set_option maxHeartbeats 400000 in
theorem alikeFloat_nan (a b:Nat) (ha:Flo.nan .f64 a=true) (hb:Flo.nan .f64 b=true) (w:World) :
   Calls Vp.prog 35 #[.float .f64 a,.float .f64 b] w fun e w' => e=.returned (.bool true) ∧ w=w':=by
 have h1:(FloatKind.f64.format.order a a != some .eq)=true:=by rw [Flo.order_nan_left a ha]; rfl
 have h2:(FloatKind.f64.format.order b b != some .eq)=true:=by rw [Flo.order_nan_left b hb]; rfl
 clear ha hb
 go_enter Vp.func35,Tryz.ntmps35
 go_wp2
 go_ret
 exact ⟨rfl,rfl⟩
set_option maxHeartbeats 400000 in
theorem sameSmall_self (x:Nat) (hx:x < 4294967296) (w:World) :
   Calls Vp.prog 11 #[.float .f32 x,.float .f32 x] w fun e w' => e=.returned (.bool true) ∧ Drw w w':=by
 by_cases h:Flo.nan .f32 x=true
 · have h1:=run_convert_nan64 42 68 (by kernel_rfl) (Vp.und Tryz.underlying68) h w
   have h2:=run_convert_nan64 42 68 (by kernel_rfl) (Vp.und Tryz.underlying68) h w.drew
   obtain ⟨y,hy,hyn⟩:=h1
   obtain ⟨z,hz,hzn⟩:=h2
   have H:=Lib.hid (alikeFloat_nan y z hyn hzn)
   clear hyn hzn h
   go_enter Vp.func11,Tryz.ntmps11
   go_wp2_with (go_at_call 35; refine (H.out _).mono ?_; rintro e w' ⟨rfl,rfl⟩)
   go_ret
   exact ⟨rfl,(Drw.refl w).drew.drew⟩
 · exact (sameSmall_refl x hx (by simpa using h) w).mono fun e w' h => ⟨h.1,Drw.of_eq h.2⟩
end Go.Proofs.YthhfljldbfgpcaaGreatDoor
end

section
namespace Go.Proofs.YthhfljldbfgpcaaGreatDoor
open Go.RowKit
theorem run_store_float (P:Program) (w:World) (a:Addr) (m:Mode) (k:FloatKind) (b:Nat):(store a (.float k b) m).run P w=stored P w a (.float k b) m:=run_store P w a _ m rfl
theorem run_store_complex (P:Program) (w:World) (a:Addr) (m:Mode) (k:FloatKind) (x y:Nat):(store a (.complex k x y) m).run P w=stored P w a (.complex k x y) m:=run_store P w a _ m rfl
attribute [local go_sem] run_store_float run_store_complex
end Go.Proofs.YthhfljldbfgpcaaGreatDoor
end
