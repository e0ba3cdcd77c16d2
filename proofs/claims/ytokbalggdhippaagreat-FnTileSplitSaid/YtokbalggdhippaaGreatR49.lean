/- Merged texts: MoA, MoB, TsA, BlD, BlS. -/
import Derived.Test.YtokbalggdhippaaGreatR6
import Derived.Test.YtokbalggdhippaaGreatR48
import Derived.Test.YtokbalggdhippaaGreatR47
import Derived.Test.YtokbalggdhippaaGreatR45
set_option linter.all false
section
namespace Go.Proofs.YtokbalggdhippaaGreat
open Cov (Le zr Fine Inn)
theorem ilin {p c d y:Int} (h1:c ≤ y) (h2:y ≤ d):(p * c ≤ p * y ∨ p * d ≤ p * y) ∧ (p * y ≤ p * c ∨ p * y ≤ p * d):=by
 rcases Int.le_total 0 p with h | h
 · exact ⟨.inl (Int.mul_le_mul_of_nonneg_left h1 h),.inr (Int.mul_le_mul_of_nonneg_left h2 h)⟩
 · exact ⟨.inr (Int.mul_le_mul_of_nonpos_left h h2),.inl (Int.mul_le_mul_of_nonpos_left h h1)⟩
theorem rlin {p c d y:Rat} (h1:c ≤ y) (h2:y ≤ d):(p * c ≤ p * y ∨ p * d ≤ p * y) ∧ (p * y ≤ p * c ∨ p * y ≤ p * d):=by
 rcases Rat.le_total (a:=0) (b:=p) with h | h
 · exact ⟨.inl (Rat.mul_le_mul_of_nonneg_left h1 h),.inr (Rat.mul_le_mul_of_nonneg_left h2 h)⟩
 · have a:=Rat.mul_le_mul_of_nonneg_left h1 (by grind:0 ≤ -p)
   have b:=Rat.mul_le_mul_of_nonneg_left h2 (by grind:0 ≤ -p)
   exact ⟨.inr (by grind),.inl (by grind)⟩
theorem mLo_le (x:Bx):mLo x ≤ x.a * x.c ∧ mLo x ≤ x.a * x.d ∧ mLo x ≤ x.b * x.c ∧ mLo x ≤ x.b * x.d:=by unfold mLo; omega
theorem le_mHi (x:Bx):x.a * x.c ≤ mHi x ∧ x.a * x.d ≤ mHi x ∧ x.b * x.c ≤ mHi x ∧ x.b * x.d ≤ mHi x:=by unfold mHi; omega
theorem imul_in {x:Bx} {p q:Int} (h1:x.a ≤ p) (h2:p ≤ x.b) (h3:x.c ≤ q) (h4:q ≤ x.d):mLo x ≤ p * q ∧ p * q ≤ mHi x:=by
 have l:=mLo_le x
 have u:=le_mHi x
 have a:=ilin (p:=x.a) h3 h4
 have b:=ilin (p:=x.b) h3 h4
 have c:=ilin (p:=q) h1 h2
 rw [Int.mul_comm q,Int.mul_comm q,Int.mul_comm q] at c
 omega
theorem rmul_in {x:Bx} {p q:Rat} (h1:(x.a:Rat) ≤ p) (h2:p ≤ x.b) (h3:(x.c:Rat) ≤ q) (h4:q ≤ x.d):(mLo x:Rat) ≤ p * q ∧ p * q ≤ (mHi x:Rat):=by
 have l:=mLo_le x
 have u:=le_mHi x
 have cst:∀ {m s t:Int},m ≤ s * t → (m:Rat) ≤ s * t:=fun h => by exact_mod_cast h
 have cst':∀ {m s t:Int},s * t ≤ m → (s:Rat) * t ≤ m:=fun h => by exact_mod_cast h
 have l1:=cst l.1
 have l2:=cst l.2.1
 have l3:=cst l.2.2.1
 have l4:=cst l.2.2.2
 have u1:=cst' u.1
 have u2:=cst' u.2.1
 have u3:=cst' u.2.2.1
 have u4:=cst' u.2.2.2
 have a:=rlin (p:=x.a) h3 h4
 have b:=rlin (p:=x.b) h3 h4
 have c:=rlin (p:=q) h1 h2
 rw [Rat.mul_comm q,Rat.mul_comm q,Rat.mul_comm q] at c
 grind
theorem isq_in {l u x:Int} (h1:l ≤ x) (h2:x ≤ u):sqLo l u ≤ x * x ∧ x * x ≤ sqHi l u:=by
 have a:=sq_nn x
 have b:=ilin (p:=x) h1 h2
 have c:=ilin (p:=l) h1 h2
 have d:=ilin (p:=u) h1 h2
 have e:=Int.mul_comm l x
 have f:=Int.mul_comm u x
 have g:=sq_nn l
 have i:=sq_nn u
 refine ⟨?_,by have:=Cov.sq_le_max h1 h2; unfold sqHi; omega⟩
 unfold sqLo
 split
 · exact a
 · rename_i hn
   by_cases k:0 ≤ l
   · have:l * l ≤ x * x:=Int.mul_le_mul h1 h1 k (by omega)
     omega
   · have:u * u ≤ x * x:=by
       have:=Int.mul_le_mul (a:=-u) (b:=-u) (c:=-x) (d:=-x) (by omega) (by omega) (by omega) (by omega)
       rwa [Int.neg_mul_neg,Int.neg_mul_neg] at this
     omega
theorem rsq_in {l u:Int} {x:Rat} (h1:(l:Rat) ≤ x) (h2:x ≤ u):(sqLo l u:Rat) ≤ x * x ∧ x * x ≤ (sqHi l u:Rat):=by
 have cst:∀ {m s:Int},m ≤ s * s → (m:Rat) ≤ s * s:=fun h => by exact_mod_cast h
 have cst':∀ {m s:Int},s * s ≤ m → (s:Rat) * s ≤ m:=fun h => by exact_mod_cast h
 have hi1:(l:Rat) * l ≤ sqHi l u:=cst' (by unfold sqHi; omega)
 have hi2:(u:Rat) * u ≤ sqHi l u:=cst' (by unfold sqHi; omega)
 have a:=Cov.sq_nn x
 constructor
 · by_cases hc:l ≤ 0 ∧ 0 ≤ u
   · have:sqLo l u=0:=by unfold sqLo; rw [if_pos hc]
     rw [this]
     exact a
   · by_cases k:0 ≤ l
     · have:sqLo l u ≤ l * l:=by unfold sqLo; rw [if_neg hc]; omega
       have h3:=cst this
       have k':(0:Rat) ≤ l:=by exact_mod_cast k
       have b:=Rat.mul_le_mul_of_nonneg_left h1 k'
       have c:=Rat.mul_le_mul_of_nonneg_right h1 (by grind:0 ≤ x)
       grind
     · have:sqLo l u ≤ u * u:=by unfold sqLo; rw [if_neg hc]; omega
       have h3:=cst this
       have k':(u:Rat) ≤ 0:=by exact_mod_cast (by omega:u ≤ 0)
       have b:=Rat.mul_le_mul_of_nonneg_left h2 (by grind:0 ≤ -(u:Rat))
       have c:=Rat.mul_le_mul_of_nonneg_right h2 (by grind:0 ≤ -x)
       grind
 · rcases Rat.le_total (a:=0) (b:=x) with k | k
   · have b:=Rat.mul_le_mul_of_nonneg_left h2 k
     have c:=Rat.mul_le_mul_of_nonneg_right h2 (by grind:0 ≤ (u:Rat))
     grind
   · have b:=Rat.mul_le_mul_of_nonneg_left h1 (by grind:0 ≤ -x)
     have c:=Rat.mul_le_mul_of_nonneg_right h1 (by grind:0 ≤ -(l:Rat))
     grind
def InB (x y:Rat) (z:Bx):Prop:=(z.a:Rat) ≤ x ∧ x ≤ z.b ∧ (z.c:Rat) ≤ y ∧ y ≤ z.d
theorem cei_ge (a:Int) {k:Int} (hk:0 < k):a ≤ k * cei a k:=by
 unfold cei
 have:=Int.mul_ediv_self_le (x:=-a) (k:=k) (by omega)
 rw [Int.mul_neg]
 omega
theorem ediv_le (a:Int) {k:Int} (hk:0 < k):k * (a / k) ≤ a:=Int.mul_ediv_self_le (by omega)
theorem cst_lo {c q a:Int} (h:c * q ≤ a):(c:Rat) * (q:Rat) ≤ a:=by exact_mod_cast h
theorem cst_lt {m n:Int} (h:m < n):(m:Rat) < (n:Rat):=by exact_mod_cast h
theorem cst_hi {c q a:Int} (h:a ≤ c * q):(a:Rat) ≤ (c:Rat) * (q:Rat):=by exact_mod_cast h
theorem InB.next {c z n:Bx} {px py:Rat} {k:Nat} (hp:InB px py c) (h:InB (zr px py k).1 (zr px py k).2 z) (hn:Bx.next c z=some n):InB (zr px py (k + 1)).1 (zr px py (k + 1)).2 n:=by
 unfold Bx.next at hn
 split at hn
 · split at hn
   · cases hn
     obtain ⟨a1,a2,a3,a4⟩:=h
     obtain ⟨p1,p2,p3,p4⟩:=hp
     obtain ⟨g1,g2⟩:=Cov.zr_one px py k
     have s1:=rsq_in a1 a2
     have s2:=rsq_in a3 a4
     have m:=rmul_in a1 a2 a3 a4
     have e:((16777216:Int):Rat)=16777216:=rfl
     have f1:=cst_lo (ediv_le (sqLo z.a z.b - sqHi z.c z.d) (k:=16777216) (by decide))
     have f2:=cst_hi (cei_ge (sqHi z.a z.b - sqLo z.c z.d) (k:=16777216) (by decide))
     have f3:=cst_lo (ediv_le (2 * mLo z) (k:=16777216) (by decide))
     have f4:=cst_hi (cei_ge (2 * mHi z) (k:=16777216) (by decide))
     rw [e] at f1 f2 f3 f4
     unfold InB Bx.add Bx.sq
     dsimp only
     have c1:∀ x y:Int,((x - y:Int):Rat)=x - y:=fun x y => by simp
     have c2:∀ x:Int,((2 * x:Int):Rat)=2 * x:=fun x => by simp
     have c3:∀ x y:Int,((x + y:Int):Rat)=x + y:=fun x y => by simp
     rw [c1] at f1 f2
     rw [c2] at f3 f4
     rw [c3,c3,c3,c3]
     generalize (zr px py k).1=X at *
     generalize (zr px py k).2=Y at *
     generalize (zr px py (k + 1)).1=X' at *
     generalize (zr px py (k + 1)).2=Y' at *
     refine ⟨?_,?_,?_,?_⟩ <;> grind
   · cases hn
 · cases hn
theorem InB.orbit {c:Bx} {px py:Rat} (hp:InB px py c):∀ {k:Nat} {z:Bx},orbB c k=some z → InB (zr px py k).1 (zr px py k).2 z
 | 0,z,h => by
   cases h
   refine ⟨?_,?_,?_,?_⟩ <;> exact Rat.le_refl
 | k + 1,z,h => by
   unfold orbB at h
   cases ho:orbB c k with
   | none => rw [ho] at h; cases h
   | some y =>
     rw [ho] at h
     exact hp.next (hp.orbit ho) h
theorem Fine.no_out {c:Bx} {px py:Int} (h1:c.a ≤ px) (h2:px ≤ c.b) (h3:c.c ≤ py) (h4:py ≤ c.d) (hf:Fine px py) {M:Nat} (hM:M ≤ 31):whB c M=false:=by
 rw [Bool.eq_false_iff]
 intro hw
 unfold whB at hw
 rw [List.any_eq_true] at hw
 obtain ⟨k,hk,ho⟩:=hw
 rw [List.mem_range] at hk
 unfold outB at ho
 split at ho
 · rename_i z hz
   have hp:InB (px:Rat) (py:Rat) c:=⟨by exact_mod_cast h1,by exact_mod_cast h2,by exact_mod_cast h3,by exact_mod_cast h4⟩
   obtain ⟨a1,a2,a3,a4⟩:=hp.orbit hz
   obtain ⟨-,f⟩:=hf k (by omega)
   have s1:=rsq_in a1 a2
   have s2:=rsq_in a3 a4
   have hn:(1125899906842624:Int) < nLo z:=by simpa using ho
   have hn':((1125899906842624:Int):Rat) < (nLo z:Rat):=cst_lt hn
   have e:(nLo z:Rat)=sqLo z.a z.b + sqLo z.c z.d:=by unfold nLo; simp
   rw [e] at hn'
   have e2:((1125899906842624:Int):Rat)=33554432 * 33554432:=by decide +kernel
   rw [e2] at hn'
   grind
 · cases ho
end Go.Proofs.YtokbalggdhippaaGreat
end

section
namespace Go.Proofs.YtokbalggdhippaaGreat
open Cov (Le zr Fine Inn)
structure Sub (y x:Bx):Prop where
 a:x.a ≤ y.a
 b:y.b ≤ x.b
 c:x.c ≤ y.c
 d:y.d ≤ x.d
 h:y.a ≤ y.b
 v:y.c ≤ y.d
theorem ediv_mono {a b k:Int} (hk:0 < k) (h:a ≤ b):a / k ≤ b / k:=Int.ediv_le_ediv hk h
theorem cei_mono {a b k:Int} (hk:0 < k) (h:a ≤ b):cei a k ≤ cei b k:=by
 unfold cei
 have:=ediv_mono hk (show -b ≤ -a by omega)
 omega
theorem le_cei {a b k:Int} (hk:0 < k) (h:a ≤ b):a / k ≤ cei b k:=by
 have h1:=ediv_le a hk
 have h2:=cei_ge b hk
 exact Int.le_of_mul_le_mul_left (by omega) hk
theorem sqHi_mono {l u l' u':Int} (h1:l ≤ l') (h2:l' ≤ u') (h3:u' ≤ u):sqHi l' u' ≤ sqHi l u:=by
 have a:=(isq_in h1 (show l' ≤ u by omega)).2
 have b:=(isq_in (show l ≤ u' by omega) h3).2
 show max (l' * l') (u' * u') ≤ _
 omega
theorem sqLo_mono {l u l' u':Int} (h1:l ≤ l') (h2:l' ≤ u') (h3:u' ≤ u):sqLo l u ≤ sqLo l' u':=by
 have a:=(isq_in h1 (show l' ≤ u by omega)).1
 have b:=(isq_in (show l ≤ u' by omega) h3).1
 by_cases h:l' ≤ 0 ∧ 0 ≤ u'
 · have e:sqLo l' u'=0:=by unfold sqLo; rw [if_pos h]
   have g:sqLo l u=0:=by unfold sqLo; rw [if_pos ⟨by omega,by omega⟩]
   omega
 · have e:sqLo l' u'=min (l' * l') (u' * u'):=by unfold sqLo; rw [if_neg h]
   omega
theorem sqLo_le_hi {l u:Int} (h:l ≤ u):sqLo l u ≤ sqHi l u:=by
 have a:=isq_in (Int.le_refl l) h
 omega
theorem Sub.mul {y x:Bx} (s:Sub y x):mLo x ≤ mLo y ∧ mHi y ≤ mHi x ∧ mLo y ≤ mHi y:=by
 obtain ⟨a,b,c,d,h,v⟩:=s
 have p1:=imul_in (x:=x) (p:=y.a) (q:=y.c) a (by omega) c (by omega)
 have p2:=imul_in (x:=x) (p:=y.a) (q:=y.d) a (by omega) (by omega) d
 have p3:=imul_in (x:=x) (p:=y.b) (q:=y.c) (by omega) b c (by omega)
 have p4:=imul_in (x:=x) (p:=y.b) (q:=y.d) (by omega) b (by omega) d
 have p5:=imul_in (x:=y) (p:=y.a) (q:=y.c) (Int.le_refl _) h (Int.le_refl _) v
 refine ⟨?_,?_,by omega⟩
 · show _ ≤ min (min (y.a * y.c) (y.a * y.d)) (min (y.b * y.c) (y.b * y.d))
   omega
 · show max (max (y.a * y.c) (y.a * y.d)) (max (y.b * y.c) (y.b * y.d)) ≤ _
   omega
theorem Sub.sq {y x:Bx} (s:Sub y x):Sub y.sq x.sq:=by
 obtain ⟨m1,m2,m3⟩:=s.mul
 obtain ⟨a,b,c,d,h,v⟩:=s
 have l1:=sqLo_mono a h b
 have u1:=sqHi_mono a h b
 have l2:=sqLo_mono c v d
 have u2:=sqHi_mono c v d
 have k1:=sqLo_le_hi h
 have k2:=sqLo_le_hi v
 exact ⟨ediv_mono (by decide) (by omega),cei_mono (by decide) (by omega),ediv_mono (by decide) (by omega),cei_mono (by decide) (by omega),le_cei (by decide) (by omega),le_cei (by decide) (by omega)⟩
theorem Sub.add {y x y' x':Bx} (s:Sub y x) (t:Sub y' x'):Sub (y.add y') (x.add x'):=by
 obtain ⟨a,b,c,d,h,v⟩:=s
 obtain ⟨a',b',c',d',h',v'⟩:=t
 exact ⟨by show x.a + x'.a ≤ y.a + y'.a; omega,by show y.b + y'.b ≤ x.b + x'.b; omega,by show x.c + x'.c ≤ y.c + y'.c; omega,by show y.d + y'.d ≤ x.d + x'.d; omega,by show y.a + y'.a ≤ y.b + y'.b; omega,by show y.c + y'.c ≤ y.d + y'.d; omega⟩
theorem Sub.ok {y x:Bx} (s:Sub y x) (hx:x.ok=true):y.ok=true:=by
 have h:=Bx.bd hx
 obtain ⟨a,b,c,d,h',v⟩:=s
 unfold Bx.ok boxOK inB
 simp only [Bool.and_eq_true,decide_eq_true_eq]
 omega
theorem Sub.next {c c' z z' n:Bx} (s:Sub c' c) (t:Sub z' z) (h:Bx.next c z=some n):∃ n',Bx.next c' z'=some n' ∧ Sub n' n:=by
 unfold Bx.next at h
 split at h
 · rename_i h1
   split at h
   · rename_i h2
     cases h
     have t1:=t.sq
     have t2:=t1.add s
     refine ⟨_,?_,t2⟩
     unfold Bx.next
     rw [if_pos (t1.ok h1),if_pos (t2.ok h2)]
   · cases h
 · cases h
theorem Sub.orbit {c c':Bx} (s:Sub c' c):∀ {k:Nat} {z:Bx},orbB c k=some z → ∃ z',orbB c' k=some z' ∧ Sub z' z
 | 0,z,h => by
   cases h
   exact ⟨_,rfl,by constructor <;> exact Int.le_refl _⟩
 | k + 1,z,h => by
   unfold orbB at h
   cases ho:orbB c k with
   | none => rw [ho] at h; cases h
   | some y =>
     rw [ho] at h
     obtain ⟨y',h1,h2⟩:=s.orbit ho
     obtain ⟨n',h3,h4⟩:=s.next h2 h
     refine ⟨n',?_,h4⟩
     unfold orbB
     rw [h1]
     exact h3
theorem Sub.wh {c c':Bx} (s:Sub c' c) {M:Nat} (h:whB c M=true):whB c' M=true:=by
 unfold whB at h ⊢
 rw [List.any_eq_true] at h ⊢
 obtain ⟨k,hk,ho⟩:=h
 refine ⟨k,hk,?_⟩
 unfold outB at ho ⊢
 split at ho
 · rename_i z hz
   obtain ⟨z',h1,h2⟩:=s.orbit hz
   rw [h1]
   obtain ⟨a,b,c,d,h',v⟩:=h2
   have l1:=sqLo_mono a h' b
   have l2:=sqLo_mono c v d
   have ho:1125899906842624 < sqLo z.a z.b + sqLo z.c z.d:=of_decide_eq_true ho
   have:1125899906842624 < sqLo z'.a z'.b + sqLo z'.c z'.d:=by omega
   exact decide_eq_true this
 · cases ho
theorem Sub.coarse {y x:Bx} (s:Sub y x):Sub y.coarse x.coarse:=by
 obtain ⟨a,b,c,d,h,v⟩:=s
 exact ⟨ediv_mono (by decide) a,cei_mono (by decide) b,ediv_mono (by decide) c,cei_mono (by decide) d,le_cei (by decide) h,le_cei (by decide) v⟩
theorem Sub.disc {y x:Bx} (s:Sub y x) (h:discB x ≤ 0):discB y ≤ 0:=by
 obtain ⟨a,b,c,d,h',v⟩:=s.coarse
 have u1:=sqHi_mono (l:=x.coarse.a + 4096) (u:=x.coarse.b + 4096) (l':=y.coarse.a + 4096) (u':=y.coarse.b + 4096) (by omega) (by omega) (by omega)
 have u2:=sqHi_mono c v d
 unfold discB at h ⊢
 omega
theorem card_mono {A E D F G A' E' D' F' G' K:Int} (hK:0 ≤ K) (hA:A ≤ A') (hE:E ≤ E') (hD:D' ≤ D) (hF:F' ≤ F) (hG:G' ≤ G) (p1:0 ≤ A) (p2:0 ≤ E) (p3:A' ≤ D') (p4:E' ≤ F') :
   (if G' < 0 then A' + E' else D' + F') * G' - E' * K ≤ (if G < 0 then A + E else D + F) * G - E * K:=by
 have hk:=Int.mul_le_mul_of_nonneg_right hE hK
 by_cases h:G < 0
 · rw [if_pos h,if_pos (show G' < 0 by omega)]
   have h1:=Int.mul_le_mul_of_nonpos_right (show A + E ≤ A' + E' by omega) (show G' ≤ 0 by omega)
   have h2:=Int.mul_le_mul_of_nonneg_left hG (show 0 ≤ A + E by omega)
   omega
 · rw [if_neg h]
   have h0:0 ≤ (D + F) * G:=Int.mul_nonneg (by omega) (by omega)
   by_cases h':G' < 0
   · rw [if_pos h']
     have:(A' + E') * G' ≤ 0:=Int.mul_nonpos_of_nonneg_of_nonpos (by omega) (by omega)
     omega
   · rw [if_neg h']
     have:(D' + F') * G' ≤ (D + F) * G:=Int.mul_le_mul (by omega) hG (by omega) (by omega)
     omega
theorem sqLo_nn (l u:Int):0 ≤ sqLo l u:=by
 have a:=sq_nn l
 have b:=sq_nn u
 unfold sqLo
 split <;> omega
theorem Sub.card {y x:Bx} (s:Sub y x):cardB y ≤ cardB x:=by
 obtain ⟨a,b,c,d,h',v⟩:=s.coarse
 have u1:=sqHi_mono (l:=x.coarse.a - 1024) (u:=x.coarse.b - 1024) (l':=y.coarse.a - 1024) (u':=y.coarse.b - 1024) (by omega) (by omega) (by omega)
 have l1:=sqLo_mono (l:=x.coarse.a - 1024) (u:=x.coarse.b - 1024) (l':=y.coarse.a - 1024) (u':=y.coarse.b - 1024) (by omega) (by omega) (by omega)
 have u2:=sqHi_mono c v d
 have l2:=sqLo_mono c v d
 have k1:=sqLo_le_hi (l:=y.coarse.a - 1024) (u:=y.coarse.b - 1024) (by omega)
 have k2:=sqLo_le_hi v
 unfold cardB
 refine card_mono (by decide) l1 l2 u1 u2 ?_ (sqLo_nn _ _) (sqLo_nn _ _) k1 k2
 unfold cardG
 omega
theorem coarse_in {x:Bx} {p q:Int} (h1:x.a ≤ p) (h2:p ≤ x.b) (h3:x.c ≤ q) (h4:q ≤ x.d):x.coarse.a * 4096 ≤ p ∧ p ≤ x.coarse.b * 4096 ∧ x.coarse.c * 4096 ≤ q ∧ q ≤ x.coarse.d * 4096:=by
 have a:=ediv_le x.a (k:=4096) (by decide)
 have b:=cei_ge x.b (k:=4096) (by decide)
 have c:=ediv_le x.c (k:=4096) (by decide)
 have d:=cei_ge x.d (k:=4096) (by decide)
 unfold Bx.coarse
 dsimp only
 omega
theorem sqHi_scale (l u:Int):sqHi (l * 4096) (u * 4096)=sqHi l u * 16777216:=by
 unfold sqHi
 have e:∀ x:Int,x * 4096 * (x * 4096)=x * x * 16777216:=fun x => by rw [Int.mul_assoc,Int.mul_left_comm 4096,← Int.mul_assoc]; rfl
 rw [e,e]
 omega
theorem sqLo_scale (l u:Int):sqLo (l * 4096) (u * 4096)=sqLo l u * 16777216:=by
 have e:∀ x:Int,x * 4096 * (x * 4096)=x * x * 16777216:=fun x => by rw [Int.mul_assoc,Int.mul_left_comm 4096,← Int.mul_assoc]; rfl
 unfold sqLo
 by_cases h:l ≤ 0 ∧ 0 ≤ u
 · rw [if_pos h,if_pos ⟨by omega,by omega⟩]; rfl
 · rw [if_neg h,if_neg (by omega),e,e]
   omega
theorem disc_inn {x:Bx} {p q:Int} (h1:x.a ≤ p) (h2:p ≤ x.b) (h3:x.c ≤ q) (h4:q ≤ x.d) (h:discB x ≤ 0):Inn p q:=by
 obtain ⟨a,b,c,d⟩:=coarse_in h1 h2 h3 h4
 have s1:=(isq_in (l:=(x.coarse.a + 4096) * 4096) (u:=(x.coarse.b + 4096) * 4096) (x:=p + 16777216) (by omega) (by omega)).2
 have s2:=(isq_in c d).2
 rw [sqHi_scale] at s1 s2
 unfold discB at h
 right
 omega
theorem card_inn {x:Bx} {p q:Int} (h1:x.a ≤ p) (h2:p ≤ x.b) (h3:x.c ≤ q) (h4:q ≤ x.d) (h:cardB x ≤ 0):Inn p q:=by
 obtain ⟨a,b,c,d⟩:=coarse_in h1 h2 h3 h4
 have s1:=isq_in (l:=(x.coarse.a - 1024) * 4096) (u:=(x.coarse.b - 1024) * 4096) (x:=p - 4194304) (by omega) (by omega)
 have s2:=isq_in c d
 rw [sqHi_scale,sqLo_scale] at s1 s2
 have n1:=sqLo_nn (x.coarse.a - 1024) (x.coarse.b - 1024)
 have n2:=sqLo_nn x.coarse.c x.coarse.d
 have hb:p - 4194304 ≤ (x.coarse.b - 1024) * 4096:=by omega
 unfold cardB cardG at h
 left
 generalize sqHi (x.coarse.a - 1024) (x.coarse.b - 1024)=D at *
 generalize sqHi x.coarse.c x.coarse.d=F at *
 generalize sqLo (x.coarse.a - 1024) (x.coarse.b - 1024)=A at *
 generalize sqLo x.coarse.c x.coarse.d=E at *
 generalize x.coarse.b - 1024=B at *
 generalize p - 4194304=u at *
 generalize hU:u * u=uu at *
 generalize hV:q * q=qq at *
 have k:=card_mono (A:=A * 16777216) (E:=E * 16777216) (D:=D * 16777216) (F:=F * 16777216) (G:=(D + F + B * 4096) * 16777216) (A':=uu) (E':=qq) (D':=uu) (F':=qq) (G':=uu + qq + u * 16777216) (K:=70368744177664)
   (by decide) (by omega) (by omega) (by omega) (by omega) (by omega) (by omega) (by omega) (Int.le_refl _) (Int.le_refl _)
 have e:(if uu + qq + u * 16777216 < 0 then uu + qq else uu + qq)=uu + qq:=by split <;> rfl
 rw [e] at k
 have z:(if (D + F + B * 4096) * 16777216 < 0 then A * 16777216 + E * 16777216 else D * 16777216 + F * 16777216) * ((D + F + B * 4096) * 16777216) - E * 16777216 * 70368744177664 =
     ((if D + F + B * 4096 < 0 then A + E else D + F) * (D + F + B * 4096) - E * 4194304) * 281474976710656:=by
   have sc:∀ x y g:Int,(x * 16777216 + y * 16777216) * (g * 16777216)=(x + y) * g * 281474976710656:=fun x y g => by
     rw [← Int.add_mul,Int.mul_assoc,Int.mul_left_comm 16777216,← Int.mul_assoc]
     rfl
   by_cases hg:D + F + B * 4096 < 0
   · rw [if_pos hg,if_pos (by omega),sc]
     omega
   · rw [if_neg hg,if_neg (by omega),sc]
     omega
 rw [z] at k
 omega
theorem Sub.state {y x:Bx} (s:Sub y x) (hx:x.ok=true) {M:Nat} (hM:M ≤ 31) (h:stB x M ≠ 0):stB y M=stB x M:=by
 unfold stB at h ⊢
 by_cases h1:cardB x ≤ 0 ∨ discB x ≤ 0
 · rw [if_pos h1]
   rw [if_pos (h1.imp (fun g => Int.le_trans s.card g) fun g => s.disc g)]
 · rw [if_neg h1] at h ⊢
   by_cases h2:whB x M=true
   · rw [if_pos h2]
     rw [if_neg ?_,if_pos (s.wh h2)]
     intro h3
     have hb:=Bx.bd hx
     have hi:Inn y.a y.c:=h3.elim (fun g => card_inn (Int.le_refl _) s.h (Int.le_refl _) s.v g) (fun g => disc_inn (Int.le_refl _) s.h (Int.le_refl _) s.v g)
     have hf:=Cov.fine_of_inn (by have:=s.a; omega) (by have:=s.b; have:=s.h; omega) (by have:=s.c; omega) (by have:=s.d; have:=s.v; omega) hi
     have:=Fine.no_out (c:=x) s.a (by have:=s.b; have:=s.h; omega) s.c (by have:=s.d; have:=s.v; omega) hf hM
     rw [h2] at this
     cases this
   · rw [if_neg h2] at h
     exact absurd rfl h
end Go.Proofs.YtokbalggdhippaaGreat
end

section
namespace Go.Proofs.YtokbalggdhippaaGreat
open Go.RowKit Flo
theorem rowsOf_at {α:Type} (n:Nat) (f:Nat → Nat → α):∀ m i j,i < m → j < n → (rowsOf n f m)[i * n + j]?=some (f i j)
 | 0,i,j,hi,_ => by omega
 | m + 1,i,j,hi,hj => by
   rw [rowsOf_succ]
   have hl:=rowsOf_len n f m
   by_cases h:i < m
   · have h1:i * n + j < m * n:=by
       have:(i + 1) * n ≤ m * n:=Nat.mul_le_mul_right n h
       rw [Nat.add_mul,Nat.one_mul] at this
       omega
     rw [List.getElem?_append_left (by omega)]
     exact rowsOf_at n f m i j h hj
   · obtain rfl:i=m:=by omega
     rw [List.getElem?_append_right (by omega),hl,Nat.add_sub_cancel_left,List.getElem?_map,List.getElem?_range hj]
     rfl
theorem rowsOf_getD (n:Nat) (f:Nat → Nat → Int) {i j:Nat} (hi:i < n) (hj:j < n):(rowsOf n f n).getD (i * n + j) 0=f i j:=by
 rw [List.getD_eq_getElem?_getD,rowsOf_at n f n i j hi hj]
 rfl
theorem rowsOf_get (n:Nat) (f:Nat → Nat → Int) {c:Nat} (hc:c < n * n):(rowsOf n f n)[c]?=some (f (c / n) (c % n)):=by
 have hn:0 < n:=by
   rcases Nat.eq_zero_or_pos n with h | h
   · subst h; omega
   · exact h
 have e:c=c / n * n + c % n:=by rw [Nat.mul_comm]; exact (Nat.div_add_mod c n).symm
 have:=rowsOf_at n f n (c / n) (c % n) ((Nat.div_lt_iff_lt_mul hn).2 hc) (Nat.mod_lt _ hn)
 rw [← e] at this
 exact this
theorem sub_cell {A B:Int} {d s i j k:Nat} (hd:d ≤ 10) (hk:k < 4) :
   Sub (bxC (2 * A + (((2 * j + k % 2) / s:Nat):Int) * s) (2 * B + (((2 * i + k / 2) / s:Nat):Int) * s) (d + 1) ((2 * i + k / 2) % s) ((2 * j + k % 2) % s)) (bxC A B d i j):=by
 have e1:(((2 * j + k % 2) / s:Nat):Int) * s + ((2 * j + k % 2) % s:Nat)=2 * j + (k % 2:Nat):=by
   have:=Nat.div_add_mod (2 * j + k % 2) s
   rw [Nat.mul_comm] at this
   exact_mod_cast this
 have e2:(((2 * i + k / 2) / s:Nat):Int) * s + ((2 * i + k / 2) % s:Nat)=2 * i + (k / 2:Nat):=by
   have:=Nat.div_add_mod (2 * i + k / 2) s
   rw [Nat.mul_comm] at this
   exact_mod_cast this
 have p:(2 ^ (24 - d):Nat)=2 * 2 ^ (24 - (d + 1)):=by rw [← Nat.pow_succ']; congr 1; omega
 have hp:(0:Int) < ((2 ^ (24 - (d + 1)):Nat):Int):=by have:=Nat.two_pow_pos (24 - (d + 1)); omega
 have key:∀ (X x y:Int) (t:Nat),x + y=2 * t + X → ∀ z:Int,(2 * z + x + y) * ((2 ^ (24 - (d + 1)):Nat):Int)=(z + t) * ((2 ^ (24 - d):Nat):Int) + X * ((2 ^ (24 - (d + 1)):Nat):Int):=fun X x y t h z => by
   rw [p,Int.natCast_mul,show 2 * z + x + y=(z + t) * 2 + X from by omega,Int.add_mul,Int.mul_assoc]
   rfl
 have k1:=key _ _ _ j (by rw [e1]) A
 have k2:=key _ _ _ i (by rw [e2]) B
 have p':((2 ^ (24 - d):Nat):Int)=2 * ((2 ^ (24 - (d + 1)):Nat):Int):=by rw [p,Int.natCast_mul]; rfl
 have c1:(k % 2:Nat)=0 ∨ (k % 2:Nat)=1:=by omega
 have c2:(k / 2:Nat)=0 ∨ (k / 2:Nat)=1:=by omega
 have f1:((k % 2:Nat):Int) * ((2 ^ (24 - (d + 1)):Nat):Int)=0 ∨ ((k % 2:Nat):Int) * ((2 ^ (24 - (d + 1)):Nat):Int)=((2 ^ (24 - (d + 1)):Nat):Int):=by
   rcases c1 with h | h <;> rw [h] <;> simp
 have f2:((k / 2:Nat):Int) * ((2 ^ (24 - (d + 1)):Nat):Int)=0 ∨ ((k / 2:Nat):Int) * ((2 ^ (24 - (d + 1)):Nat):Int)=((2 ^ (24 - (d + 1)):Nat):Int):=by
   rcases c2 with h | h <;> rw [h] <;> simp
 unfold bxC cA
 rw [k1,k2,p']
 rw [p'] at *
 generalize ((2 ^ (24 - (d + 1)):Nat):Int)=S at *
 generalize ((k % 2:Nat):Int) * S=u at *
 generalize ((k / 2:Nat):Int) * S=v at *
 generalize (A + j) * (2 * S)=P at *
 generalize (B + i) * (2 * S)=Q at *
 constructor <;> dsimp only <;> omega
theorem mk_ok {cx cy d s:Nat} {A B:Int} (h:MkT cx cy d s A B) {i j:Nat} (hi:i < s) (hj:j < s):(bxC A B d i j).ok=true:=by
 have:=(cOk_iff (d:=d) (by have:=h.d10; omega) h.ha h.hb i j).2 ⟨by have:=h.ga; omega,by have:=h.gb; omega⟩
 exact (cOk_box this).2.2
theorem join_mark {most:Int} (hm:(mostN most).toNat ≤ 31) {cx cy d s:Nat} {A B:Int} (h:MkT cx cy d s A B) {Y:Nat → List Int} (hY:∀ q,q < 4 → Y q=rowsOf s (stT (2 * A + ((q % 2:Nat):Int) * s) (2 * B + ((q / 2:Nat):Int) * s) (d + 1) most) s)
   {c:Nat} (hc:c < s * s) (hne:stT A B d most (c / s) (c % s) ≠ 0):jmark Y s c=stT A B d most (c / s) (c % s):=by
 have s1:=h.s1
 have s8:=h.s8
 have d10:=h.d10
 have hi:c / s < s:=(Nat.div_lt_iff_lt_mul s1).2 hc
 have hj:c % s < s:=Nat.mod_lt _ s1
 have aux:∀ X Z:Nat,Z < 2 → (X * 2 + Z) % 2=Z ∧ (X * 2 + Z) / 2=X:=fun X Z h => by omega
 have key:∀ k,k < 4 → jm Y s c k=stT A B d most (c / s) (c % s):=fun k hk => by
   obtain ⟨q1,q2⟩:=jq_lt s1 s8 hc hk
   unfold jm
   rw [hY _ q1]
   have b1:(2 * (c / s) + k / 2) / s < 2:=(Nat.div_lt_iff_lt_mul s1).2 (by omega)
   have b2:(2 * (c % s) + k % 2) / s < 2:=(Nat.div_lt_iff_lt_mul s1).2 (by omega)
   have m1:jq s c k % 2=(2 * (c % s) + k % 2) / s:=(aux _ _ b2).1
   have m2:jq s c k / 2=(2 * (c / s) + k / 2) / s:=(aux _ _ b2).2
   rw [m1,m2]
   have:=rowsOf_getD s (stT (2 * A + (((2 * (c % s) + k % 2) / s:Nat):Int) * s) (2 * B + (((2 * (c / s) + k / 2) / s:Nat):Int) * s) (d + 1) most) (i:=(2 * (c / s) + k / 2) % s) (j:=(2 * (c % s) + k % 2) % s) (Nat.mod_lt _ s1) (Nat.mod_lt _ s1)
   refine Eq.trans this ?_
   exact (sub_cell d10 hk).state (mk_ok h hi hj) hm hne
 unfold jmark
 rw [key 0 (by omega),key 1 (by omega),key 2 (by omega),key 3 (by omega)]
 exact if_pos ⟨rfl,rfl,rfl,rfl⟩
theorem four_rows {most:Int} {cx cy d s:Nat} {A B:Int} (hd:d ≤ 9) (hs8:s ≤ 8) (hA:Pt cx d A) (hB:Pt cy d B) (bA:A.natAbs ≤ 4 * 2 ^ d) (bB:B.natAbs ≤ 4 * 2 ^ d) {q:Nat} (hq:q < 4) {t:TRec} (hg:TGood most t) (e1:t.cx=(quart cx cy d s q).1) (e2:t.cy=(quart cx cy d s q).2) (e3:t.deep=(d:Int) + 1) (e4:t.size=s) :
   t.ys=rowsOf s (stT (2 * A + ((q % 2:Nat):Int) * s) (2 * B + ((q / 2:Nat):Int) * s) (d + 1) most) s:=by
 obtain ⟨d',s',a,b,h1,h2,h3,h4,h5⟩:=hg
 obtain rfl:d'=d + 1:=by omega
 obtain rfl:s'=s:=by omega
 have hx2:2 ^ d ≤ 2 ^ 9:=Nat.pow_le_pow_right (by decide) hd
 have px:=h3.px
 have py:=h3.py
 rw [e1] at px
 rw [e2] at py
 have f:=farF_is (d:=d) (s:=s') (by omega) (by omega)
 have x2:=pt_up (by omega) hA
 have y2:=pt_up (by omega) hB
 have z:=pt_zero (d + 1)
 have g1:=(addF_is (by omega) x2 f.2 (by omega)).2
 have g2:=(addF_is (by omega) y2 f.2 (by omega)).2
 have g3:=(addF_is (by omega) x2 z (by omega)).2
 have g4:=(addF_is (by omega) y2 z (by omega)).2
 rw [h5]
 rcases (by omega:q=0 ∨ q=1 ∨ q=2 ∨ q=3) with rfl | rfl | rfl | rfl
 · rw [pt_inj px x2,pt_inj py y2]; simp
 · rw [pt_inj px g1,pt_inj py g4]; simp
 · rw [pt_inj px g3,pt_inj py g2]; simp
 · rw [pt_inj px g1,pt_inj py g2]; simp
end Go.Proofs.YtokbalggdhippaaGreat
end

section
namespace Go.Proofs.YtokbalggdhippaaGreat
open Go.RowKit Flo
def dig (c:UInt8):Prop:=48 ≤ c.toNat ∧ c.toNat ≤ 51
def SplitP (cx cy d:Nat) (s:Int):Prop:=∀ k,k < 4 → MkP (quart cx cy d s k).1 (quart cx cy d s k).2 ((d:Int) + 1) s
def PathR (s:Int):List UInt8 → Nat → Nat → Nat → Nat → Nat → Nat → Prop
 | [],cx,cy,d,x,y,dd => x=cx ∧ y=cy ∧ dd=d
 | c :: cs,cx,cy,d,x,y,dd => dig c ∧ SplitP cx cy d s ∧ PathR s cs (quart cx cy d s (c.toNat - 48)).1 (quart cx cy d s (c.toNat - 48)).2 (d + 1) x y dd
theorem PathR.fn {s:Int}:∀ {bs:List UInt8} {cx cy d x y dd x' y' dd':Nat},PathR s bs cx cy d x y dd → PathR s bs cx cy d x' y' dd' → x=x' ∧ y=y' ∧ dd=dd'
 | [],_,_,_,_,_,_,_,_,_,⟨h1,h2,h3⟩,⟨g1,g2,g3⟩ => ⟨h1.trans g1.symm,h2.trans g2.symm,h3.trans g3.symm⟩
 | _ :: _,_,_,_,_,_,_,_,_,_,⟨_,_,h⟩,⟨_,_,g⟩ => PathR.fn h g
theorem PathR.len {s:Int}:∀ {bs:List UInt8} {cx cy d x y dd:Nat},PathR s bs cx cy d x y dd → dd=d + bs.length
 | [],_,_,_,_,_,_,⟨_,_,h⟩ => h
 | a :: bs,_,_,_,_,_,_,⟨_,_,h⟩ => by rw [h.len,List.length_cons]; omega
theorem TGood.n {most:Int} {t:TRec} (h:TGood most t):∃ d s:Nat,t.deep=d ∧ t.size=s ∧ t.n=s * s ∧ 1 ≤ s ∧ s ≤ 8 ∧ d ≤ 10:=by
 obtain ⟨d,s,a,b,h1,h2,h3,-,-⟩:=h
 exact ⟨d,s,h1,h2,by unfold TRec.n; rw [h2]; simp,h3.s1,h3.s8,h3.d10⟩
theorem TList.cells {B:Nat} {L:List TRec} {g cap:Nat} {W:World} (h:TList B L (.slice (some ⟨g,0,none⟩) L.length cap) W) {k:Nat} {t:TRec} (ht:L[k]?=some t) :
   W.cell? ⟨g,k * 5,none⟩=some (.complex .f32 t.cx t.cy) ∧ W.cell? ⟨g,k * 5 + 1,none⟩=some (.int .i64 t.deep) ∧ W.cell? ⟨g,k * 5 + 2,none⟩=some (.int .i64 t.size) ∧ W.cell? ⟨g,k * 5 + 3,none⟩=some (.slice (some ⟨t.gs,0,none⟩) t.n t.cs) ∧ W.cell? ⟨g,k * 5 + 4,none⟩=some (.slice (some ⟨t.gm,0,none⟩) t.n t.cm):=by
 have hk:k < L.length:=(List.getElem?_eq_some_iff.1 ht).1
 have at_:∀ j v,j < 5 → t.cells[j]?=some v → W.cell? ⟨g,k * 5 + j,none⟩=some v:=fun j v hj hv => by
   rw [h.row.cellAt (k * 5 + j) (by omega)]
   exact cellsL_at L k j t v ht hv
 exact ⟨at_ 0 _ (by omega) rfl,at_ 1 _ (by omega) rfl,at_ 2 _ (by omega) rfl,at_ 3 _ (by omega) rfl,at_ 4 _ (by omega) rfl⟩
end Go.Proofs.YtokbalggdhippaaGreat
end

section
namespace Go.Proofs.YtokbalggdhippaaGreat
open Go.RowKit Flo
attribute [local go_sem ↓] Go.wp_at_zero Go.wp_at_succ
attribute [local go_sem] run_store_float run_store_complex
theorem sameRecs {most:Int} {t u:TRec} {B B':Nat} {W:World} (ht:TOwn B t W) (hu:TOwn B' u W) (gt:TGood most t) (gu:TGood most u) (ex:t.cx=u.cx) (ey:t.cy=u.cy) (ed:t.deep=u.deep) (es:t.size=u.size) :
   Calls Vp.prog 10 #[.agg #[.complex .f32 t.cx t.cy,.int .i64 t.deep,.int .i64 t.size,.slice (some ⟨t.gs,0,none⟩) t.n t.cs,.slice (some ⟨t.gm,0,none⟩) t.n t.cm],.agg #[.complex .f32 u.cx u.cy,.int .i64 u.deep,.int .i64 u.size,.slice (some ⟨u.gs,0,none⟩) u.n u.cs,.slice (some ⟨u.gm,0,none⟩) u.n u.cm]] W fun e w' => e=.returned (.bool true) ∧ Below W.heap.size W w':=by
 obtain ⟨e1,e2⟩:=gt.same gu ex ey ed es
 have en:u.n=t.n:=by unfold TRec.n; rw [es]
 obtain ⟨d,s,a,b,h1,h2,h3,-,-⟩:=gt
 obtain ⟨d',s',k1,k2,k3,k4,k5,k6⟩:=gu.n
 have hn:t.n ≤ 64:=by
   rw [← en,k3]
   exact Nat.mul_le_mul k5 k5
 obtain ⟨l1,l2⟩:=ht.lens
 have S1:=sl_of_own ht.made.S
 have S2:=sl_of_own ht.made.M
 have T1:=sl_of_own hu.made.S
 have T2:=sl_of_own hu.made.M
 rw [← e1] at T1
 rw [← e2] at T2
 rw [← ex,← ey,← ed,← es,en]
 exact sameTile_al h3.px h3.py t.deep t.size _ _ _ _ t.cs u.cs t.cm u.cm t.xs t.xs t.ys t.n (by omega) t.n l2 (by omega) (fun k hk => ⟨t.xs[k]'(by omega),t.xs[k]'(by omega),List.getElem?_eq_getElem (by omega),List.getElem?_eq_getElem (by omega),ht.made.hx _ (List.getElem_mem _),Al.refl _ _⟩) W S1 T1 S2 T2
end Go.Proofs.YtokbalggdhippaaGreat
end
