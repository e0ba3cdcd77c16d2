/- Merged texts: CvA, CvB1, CvB2, CvB3, CvB4, CvB5, CvB6, CvB7, CvB8. -/
import Derived.Test.YthhfljldbfgpcaaGreatDoorT1
set_option linter.all false
section
namespace Go.Proofs.YthhfljldbfgpcaaGreatDoor.Cov
def Le (x y r:Rat):Prop:=0 ≤ r ∧ x * x + y * y ≤ r * r
theorem sq_nn (x:Rat):0 ≤ x * x:=by
 rcases Rat.le_total (a:=0) (b:=x) with h | h
 · exact Rat.mul_nonneg h h
 · have:=Rat.mul_nonneg (a:=-x) (b:=-x) (by grind) (by grind)
   grind
theorem le_of_sq {x r:Rat} (hr:0 ≤ r) (h:x * x ≤ r * r):x ≤ r:=by
 rcases Rat.le_total (a:=x) (b:=r) with g | g
 · exact g
 · have h1:=Rat.mul_le_mul_of_nonneg_left g hr
   have h2:=Rat.mul_le_mul_of_nonneg_right g (by grind:0 ≤ x)
   have h3:(x - r) * (x + r) ≤ 0:=by grind
   have h4:0 ≤ (x - r) * (x - r):=sq_nn _
   by_cases hx:x=r
   · grind
   · have h5:0 < (x - r):=by grind
     have h6:0 < x + r:=by grind
     have:=Rat.mul_pos h5 h6
     grind
theorem Le.dot {x y r u v s:Rat} (h:Le x y r) (g:Le u v s):x * u + y * v ≤ r * s:=by
 obtain ⟨h1,h2⟩:=h
 obtain ⟨g1,g2⟩:=g
 refine le_of_sq (Rat.mul_nonneg h1 g1) ?_
 have a:=sq_nn (x * v - y * u)
 have b:=Rat.mul_le_mul_of_nonneg_right h2 (by have:=sq_nn u; have:=sq_nn v; grind:0 ≤ u * u + v * v)
 have c:=Rat.mul_le_mul_of_nonneg_left g2 (sq_nn r)
 grind
theorem Le.add {x y r u v s:Rat} (h:Le x y r) (g:Le u v s):Le (x + u) (y + v) (r + s):=by
 have d:=h.dot g
 obtain ⟨h1,h2⟩:=h
 obtain ⟨g1,g2⟩:=g
 exact ⟨by grind,by grind⟩
theorem Le.mul {x y r u v s:Rat} (h:Le x y r) (g:Le u v s):Le (x * u - y * v) (x * v + y * u) (r * s):=by
 obtain ⟨h1,h2⟩:=h
 obtain ⟨g1,g2⟩:=g
 refine ⟨Rat.mul_nonneg h1 g1,?_⟩
 have b:=Rat.mul_le_mul_of_nonneg_right h2 (by have:=sq_nn u; have:=sq_nn v; grind:0 ≤ u * u + v * v)
 have c:=Rat.mul_le_mul_of_nonneg_left g2 (sq_nn r)
 grind
theorem Le.mono {x y r s:Rat} (h:Le x y r) (g:r ≤ s):Le x y s:=by
 obtain ⟨h1,h2⟩:=h
 refine ⟨by grind,?_⟩
 have a:=Rat.mul_le_mul_of_nonneg_left g h1
 have b:=Rat.mul_le_mul_of_nonneg_right g (by grind:0 ≤ s)
 grind
theorem Le.small {x y:Rat} {e:Rat} (h1:0 ≤ x) (h2:x ≤ e) (h3:0 ≤ y) (h4:y ≤ e):Le x y (2 * e):=by
 refine ⟨by grind,?_⟩
 have a:=Rat.mul_le_mul_of_nonneg_left h2 h1
 have b:=Rat.mul_le_mul_of_nonneg_right h2 (by grind:0 ≤ e)
 have c:=Rat.mul_le_mul_of_nonneg_left h4 h3
 have d:=Rat.mul_le_mul_of_nonneg_right h4 (by grind:0 ≤ e)
 have:=sq_nn e
 grind
def isq (n g:Nat):Nat:=Nat.succ (Nat.div (Nat.add (Nat.succ g) (Nat.div n (Nat.succ g))) 2)
noncomputable def gue (a b:Nat):Nat:=Bool.rec (Nat.add a (Nat.div (Nat.mul 3 b) 8)) (Nat.add b (Nat.div (Nat.mul 3 a) 8)) (Nat.ble a b)
noncomputable def sh (a:Int):Int:=Int.rec (fun n => Int.ofNat (Nat.shiftRight n 24)) (fun n => Int.negSucc (Nat.shiftRight n 24)) a
noncomputable def orb (cx cy:Int) (rho:Nat) (n:Nat):Int → Int → Int → Int → Nat → Bool :=
 Nat.rec (fun _ _ _ _ _ => true) (fun _ ih X Y P Q R =>
   let ax:=X.natAbs
   let ay:=Y.natAbs
   let xx:=Nat.mul ax ax
   let yy:=Nat.mul ay ay
   let nz:=Nat.add xx yy
   let s:=isq nz (gue ax ay)
   let ap:=P.natAbs
   let aq:=Q.natAbs
   let nd:=Nat.add (Nat.mul ap ap) (Nat.mul aq aq)
   let s2:=isq nd (gue ap aq)
   let A:=Nat.succ (Nat.add (Nat.shiftRight (Nat.mul s2 rho) 24) R)
   Bool.rec false (Bool.rec false (Bool.rec false
     (ih (Int.add (sh (Int.subNatNat xx yy)) cx) (Int.add (sh (Int.mul 2 (Int.mul X Y))) cy) (Int.add (sh (Int.mul 2 (Int.sub (Int.mul X P) (Int.mul Y Q)))) 16777216) (sh (Int.mul 2 (Int.add (Int.mul X Q) (Int.mul Y P))))
       (Nat.add (Nat.add (Nat.shiftRight (Nat.add (Nat.mul (Nat.mul 2 s) R) (Nat.mul A A)) 24) (Nat.shiftRight rho 23)) 4))
    (Nat.ble (Nat.add s A) 33554432)) (Nat.ble nd (Nat.mul s2 s2))) (Nat.ble nz (Nat.mul s s))) n
theorem bool_rec {c b:Bool}:Bool.rec (motive:=fun _ => Bool) false b c=true ↔ c=true ∧ b=true:=by cases c <;> simp
theorem orb_step (cx cy:Int) (rho n:Nat) (X Y P Q:Int) (R:Nat) (h:orb cx cy rho (n + 1) X Y P Q R=true):∃ s s2:Nat,X * X + Y * Y ≤ s * s ∧ P * P + Q * Q ≤ s2 * s2 ∧ s + (((s2 * rho) >>> 24) + R + 1) ≤ 33554432 ∧
   orb cx cy rho n (sh (X * X - Y * Y) + cx) (sh (2 * (X * Y)) + cy) (sh (2 * (X * P - Y * Q)) + 16777216) (sh (2 * (X * Q + Y * P)))
     (((2 * s * R + (((s2 * rho) >>> 24) + R + 1) * (((s2 * rho) >>> 24) + R + 1)) >>> 24) + (rho >>> 23) + 4)=true:=by
 have h':=h
 unfold orb at h'
 simp only [bool_rec] at h'
 obtain ⟨h1,h2,h3,h4⟩:=h'
 refine ⟨_,_,?_,?_,Nat.le_of_ble_eq_true h3,?_⟩
 · have:=Nat.le_of_ble_eq_true h1
   have e:∀ a:Int,(Nat.mul a.natAbs a.natAbs:Int)=a * a:=fun a => by
     show ((a.natAbs * a.natAbs:Nat):Int)=a * a
     exact Int.natAbs_mul_self
   rw [← e X,← e Y]
   exact_mod_cast this
 · have:=Nat.le_of_ble_eq_true h2
   have e:∀ a:Int,(Nat.mul a.natAbs a.natAbs:Int)=a * a:=fun a => by
     show ((a.natAbs * a.natAbs:Nat):Int)=a * a
     exact Int.natAbs_mul_self
   rw [← e P,← e Q]
   exact_mod_cast this
 · have e:Int.subNatNat (Nat.mul X.natAbs X.natAbs) (Nat.mul Y.natAbs Y.natAbs)=X * X - Y * Y:=by
     rw [Int.subNatNat_eq_coe]
     show ((X.natAbs * X.natAbs:Nat):Int) - ((Y.natAbs * Y.natAbs:Nat):Int)=_
     rw [Int.natAbs_mul_self,Int.natAbs_mul_self]
   rw [e] at h4
   exact h4
theorem sh_eq (a:Int):sh a=a / 16777216:=by
 cases a with
 | ofNat n =>
   show Int.ofNat (n >>> 24)=_
   rw [Nat.shiftRight_eq_div_pow]
   rfl
 | negSucc n =>
   show Int.negSucc (n >>> 24)=_
   rw [Nat.shiftRight_eq_div_pow]
   show Int.negSucc (n / 16777216)=_
   rw [Int.negSucc_ediv _ (by decide)]
   rfl
theorem cast_lo {c q a:Int} (h:c * q ≤ a):(c:Rat) * (q:Rat) ≤ a:=by exact_mod_cast h
theorem cast_hi {c q a:Int} (h:a ≤ c * q + c):(a:Rat) ≤ (c:Rat) * (q:Rat) + c:=by exact_mod_cast h
theorem big:((16777216:Int):Rat)=16777216:=rfl
theorem sh_rat (a:Int):16777216 * (sh a:Rat) ≤ a ∧ (a:Rat) ≤ 16777216 * (sh a:Rat) + 16777216:=by
 rw [sh_eq,← big]
 exact ⟨cast_lo (by omega),cast_hi (by omega)⟩
theorem shn_rat (a:Nat) (k:Nat) (c:Rat) (hc:c=((2 ^ k:Nat):Rat)):(a:Rat) ≤ c * ((a >>> k:Nat):Rat) + c:=by
 subst hc
 rw [Nat.shiftRight_eq_div_pow]
 have h:a ≤ 2 ^ k * (a / 2 ^ k) + 2 ^ k:=by
   have:=Nat.div_add_mod a (2 ^ k)
   have:=Nat.mod_lt a (Nat.two_pow_pos k)
   omega
 exact_mod_cast h
theorem Le.scale {x y r c:Rat} (hc:0 ≤ c) (h:Le x y r):Le (c * x) (c * y) (c * r):=by
 obtain ⟨h1,h2⟩:=h
 refine ⟨Rat.mul_nonneg hc h1,?_⟩
 have:=Rat.mul_le_mul_of_nonneg_left h2 (sq_nn c)
 grind
theorem Le.unscale {x y r c:Rat} (hc:0 < c) (h:Le (c * x) (c * y) (c * r)):Le x y r:=by
 obtain ⟨h1,h2⟩:=h
 have h0:0 < c * c:=Rat.mul_pos hc hc
 refine ⟨Rat.le_of_mul_le_mul_left (a:=0) (b:=r) (c:=c) (by grind) hc,Rat.le_of_mul_le_mul_left (c:=c * c) (a:=x * x + y * y) (b:=r * r) (by grind) h0⟩
theorem Le.cast {x y r x' y' r':Rat} (h:Le x y r) (h1:x=x') (h2:y=y') (h3:r ≤ r'):Le x' y' r':=by
 subst h1 h2
 exact h.mono h3
section
variable {U X Y P Q X' Y' P' Q' s s2 R A R' rho cx cy tx ty zx zy zx' zy' ex ey ex' ey':Rat} (hU:0 < U)
include hU
theorem step_ok (hm:Le X Y s) (hd:Le P Q s2)
   (hX1:U * X' ≤ X * X - Y * Y + U * cx) (hX2:X * X - Y * Y + U * cx ≤ U * X' + U)
   (hY1:U * Y' ≤ 2 * (X * Y) + U * cy) (hY2:2 * (X * Y) + U * cy ≤ U * Y' + U)
   (hP1:U * P' ≤ 2 * (X * P - Y * Q) + U * U) (hP2:2 * (X * P - Y * Q) + U * U ≤ U * P' + U)
   (hQ1:U * Q' ≤ 2 * (X * Q + Y * P)) (hQ2:2 * (X * Q + Y * P) ≤ U * Q' + U)
   (hA:s2 * rho + U * R ≤ U * A) (hR:2 * s * R + A * A + 2 * rho + 2 * U ≤ U * R')
   (ht:Le tx ty rho) (he:Le ex ey R)
   (h1:U * zx=U * X + (P * tx - Q * ty) + U * ex) (h2:U * zy=U * Y + (P * ty + Q * tx) + U * ey)
   (g1:U * zx'=zx * zx - zy * zy + U * (cx + tx)) (g2:U * zy'=2 * (zx * zy) + U * (cy + ty))
   (k1:U * zx'=U * X' + (P' * tx - Q' * ty) + U * ex') (k2:U * zy'=U * Y' + (P' * ty + Q' * tx) + U * ey') :
   Le zx zy (s + A) ∧ Le ex' ey' R':=by
 have a1:Le (X * X - Y * Y + U * cx - U * X') (2 * (X * Y) + U * cy - U * Y') (2 * U):=Le.small (by grind) (by grind) (by grind) (by grind)
 have a2:Le (2 * (X * P - Y * Q) + U * U - U * P') (2 * (X * Q + Y * P) - U * Q') (2 * U):=Le.small (by grind) (by grind) (by grind) (by grind)
 have a3:=a2.mul ht
 have a4:=hm.mul he
 have a5:Le (P * tx - Q * ty + U * ex) (P * ty + Q * tx + U * ey) (U * A):=((hd.mul ht).add (he.scale (Rat.le_of_lt hU))).mono hA
 have a6:=a5.mul a5
 have hU2:0 ≤ U * U:=sq_nn U
 have b:=(((a1.scale hU2).add (a3.scale (Rat.le_of_lt hU))).add ((a4.scale hU2).scale (c:=2) (by grind))).add a6
 have hR':=Rat.mul_le_mul_of_nonneg_left hR hU2
 refine ⟨Le.unscale hU (((hm.scale (Rat.le_of_lt hU)).add a5).cast (by grind) (by grind) (by grind)),Le.unscale (c:=U * U * U) (Rat.mul_pos (Rat.mul_pos hU hU) hU) (b.cast ?_ ?_ (by grind))⟩
 · grind
 · grind
end
def zr (a b:Rat):Nat → Rat × Rat
 | 0 => (0,0)
 | k + 1 => (((zr a b k).1 * (zr a b k).1 - (zr a b k).2 * (zr a b k).2) / 16777216 + a,2 * ((zr a b k).1 * (zr a b k).2) / 16777216 + b)
theorem zr_one (a b:Rat) (k:Nat):16777216 * (zr a b (k + 1)).1=(zr a b k).1 * (zr a b k).1 - (zr a b k).2 * (zr a b k).2 + 16777216 * a ∧ 16777216 * (zr a b (k + 1)).2=2 * ((zr a b k).1 * (zr a b k).2) + 16777216 * b:=by
 show 16777216 * (((zr a b k).1 * (zr a b k).1 - (zr a b k).2 * (zr a b k).2) / 16777216 + a)=_ ∧ 16777216 * (2 * ((zr a b k).1 * (zr a b k).2) / 16777216 + b)=_
 generalize (zr a b k).1=x
 generalize (zr a b k).2=y
 constructor <;> grind
def At (px py:Rat) (cx cy:Int) (k:Nat) (X Y P Q:Int) (R:Nat):Prop :=
 ∃ ex ey:Rat,Le ex ey R ∧ 16777216 * (zr px py k).1=16777216 * X + (P * (px - cx) - Q * (py - cy)) + 16777216 * ex ∧ 16777216 * (zr px py k).2=16777216 * Y + (P * (py - cy) + Q * (px - cx)) + 16777216 * ey
theorem cast_sq {X Y:Int} {s:Nat} (h:X * X + Y * Y ≤ s * s):Le (X:Rat) (Y:Rat) (s:Rat):=by
 refine ⟨by exact_mod_cast Nat.zero_le s,?_⟩
 exact_mod_cast h
theorem cast_nn (n:Nat):(0:Rat) ≤ (n:Rat):=by exact_mod_cast Nat.zero_le n
theorem At.step {px py:Rat} {cx cy:Int} {k:Nat} {X Y P Q:Int} {R rho n:Nat} (h:At px py cx cy k X Y P Q R) (ht:Le (px - cx) (py - cy) rho) (ho:orb cx cy rho (n + 1) X Y P Q R=true) :
   Le (zr px py k).1 (zr px py k).2 33554432 ∧ ∃ (X' Y' P' Q':Int) (R':Nat),At px py cx cy (k + 1) X' Y' P' Q' R' ∧ orb cx cy rho n X' Y' P' Q' R'=true:=by
 obtain ⟨s,s2,h1,h2,h3,h4⟩:=orb_step cx cy rho n X Y P Q R ho
 obtain ⟨ex,ey,he,e1,e2⟩:=h
 obtain ⟨g1,g2⟩:=zr_one px py k
 have r1:=sh_rat (X * X - Y * Y)
 have r2:=sh_rat (2 * (X * Y))
 have r3:=sh_rat (2 * (X * P - Y * Q))
 have r4:=sh_rat (2 * (X * Q + Y * P))
 have r5:=shn_rat (s2 * rho) 24 16777216 rfl
 generalize sh (X * X - Y * Y)=X1 at *
 generalize sh (2 * (X * Y))=Y1 at *
 generalize sh (2 * (X * P - Y * Q))=P1 at *
 generalize sh (2 * (X * Q + Y * P))=Q1 at *
 generalize (s2 * rho) >>> 24=A1 at *
 have r6:=shn_rat (2 * s * R + (A1 + R + 1) * (A1 + R + 1)) 24 16777216 rfl
 have r7:=shn_rat rho 23 8388608 rfl
 generalize (2 * s * R + (A1 + R + 1) * (A1 + R + 1)) >>> 24=R1 at *
 generalize rho >>> 23=R2 at *
 have q1:((X * X - Y * Y:Int):Rat)=X * X - Y * Y:=by simp
 have q2:((2 * (X * Y):Int):Rat)=2 * (X * Y):=by simp
 have q3:((2 * (X * P - Y * Q):Int):Rat)=2 * (X * P - Y * Q):=by simp
 have q4:((2 * (X * Q + Y * P):Int):Rat)=2 * (X * Q + Y * P):=by simp
 have q5:((s2 * rho:Nat):Rat)=s2 * rho:=by simp
 have q6:((2 * s * R + (A1 + R + 1) * (A1 + R + 1):Nat):Rat)=2 * s * R + (A1 + R + 1) * (A1 + R + 1):=by simp
 have q7:((s + (A1 + R + 1):Nat):Rat) ≤ 33554432:=by exact_mod_cast h3
 rw [q1] at r1
 rw [q2] at r2
 rw [q3] at r3
 rw [q4] at r4
 rw [q5] at r5
 rw [q6] at r6
 have q8:((s + (A1 + R + 1):Nat):Rat)=s + (A1 + R + 1):=by simp
 rw [q8] at q7
 have c1:((X1 + cx:Int):Rat)=X1 + cx:=by simp
 have c2:((Y1 + cy:Int):Rat)=Y1 + cy:=by simp
 have c3:((P1 + 16777216:Int):Rat)=P1 + 16777216:=by rw [Rat.intCast_add]; rfl
 have c4:((R1 + R2 + 4:Nat):Rat)=R1 + R2 + 4:=by simp
 obtain ⟨f1,f2⟩:=step_ok (U:=16777216) (X:=X) (Y:=Y) (P:=P) (Q:=Q) (X':=((X1 + cx:Int):Rat)) (Y':=((Y1 + cy:Int):Rat)) (P':=((P1 + 16777216:Int):Rat)) (Q':=Q1) (s:=s) (s2:=s2) (R:=R) (A:=A1 + R + 1) (R':=((R1 + R2 + 4:Nat):Rat)) (rho:=rho) (cx:=cx) (cy:=cy) (tx:=px - cx) (ty:=py - cy)
   (zx:=(zr px py k).1) (zy:=(zr px py k).2) (zx':=(zr px py (k + 1)).1) (zy':=(zr px py (k + 1)).2) (ex:=ex) (ey:=ey)
   (ex':=(zr px py (k + 1)).1 - ((X1 + cx:Int):Rat) - (((P1 + 16777216:Int):Rat) * (px - cx) - Q1 * (py - cy)) / 16777216) (ey':=(zr px py (k + 1)).2 - ((Y1 + cy:Int):Rat) - (((P1 + 16777216:Int):Rat) * (py - cy) + Q1 * (px - cx)) / 16777216)
   (by decide) (cast_sq h1) (cast_sq h2) (by rw [c1]; grind) (by rw [c1]; grind) (by rw [c2]; grind) (by rw [c2]; grind) (by rw [c3]; grind) (by rw [c3]; grind) (by grind) (by grind) (by grind) (by rw [c4]; have:=cast_nn R; grind) ht he e1 e2 (by rw [g1]; grind) (by rw [g2]; grind) (by grind) (by grind)
 exact ⟨f1.mono q7,_,_,_,_,_,⟨_,_,f2,by grind,by grind⟩,h4⟩
theorem orb_all {px py:Rat} {cx cy:Int} {rho:Nat} (ht:Le (px - cx) (py - cy) rho):∀ {n k:Nat} {X Y P Q:Int} {R:Nat},At px py cx cy k X Y P Q R → orb cx cy rho n X Y P Q R=true → ∀ i,i < n → Le (zr px py (k + i)).1 (zr px py (k + i)).2 33554432
 | 0,_,_,_,_,_,_,_,_,i,hi => by omega
 | n + 1,k,X,Y,P,Q,R,h,ho,i,hi => by
   obtain ⟨h1,X',Y',P',Q',R',h2,h3⟩:=h.step ht ho
   cases i with
   | zero => exact h1
   | succ i =>
     have:=orb_all ht h2 h3 i (by omega)
     rw [show k + (i + 1)=k + 1 + i from by omega]
     exact this
noncomputable def sqL (l u:Int):Int:=Bool.rec (Bool.rec 0 (Int.mul u u) (decide (u ≤ 0))) (Int.mul l l) (decide (0 ≤ l))
theorem isq_nn (x:Int):0 ≤ x * x:=by
 rcases Int.le_total 0 x with k | k
 · exact Int.mul_nonneg k k
 · exact Int.mul_nonneg_of_nonpos_of_nonpos k k
theorem sqL_nn (l u:Int):0 ≤ sqL l u:=by
 unfold sqL
 cases decide (0 ≤ l)
 · cases decide (u ≤ 0)
   · exact Int.le_refl 0
   · exact isq_nn u
 · exact isq_nn l
theorem sqL_le {l u x:Int} (h1:l ≤ x) (h2:x ≤ u):sqL l u ≤ x * x:=by
 unfold sqL
 by_cases h:0 ≤ l
 · rw [decide_eq_true h]
   show l * l ≤ x * x
   exact Int.mul_le_mul h1 h1 h (by omega)
 · rw [decide_eq_false h]
   by_cases g:u ≤ 0
   · rw [decide_eq_true g]
     show u * u ≤ x * x
     have:=Int.mul_le_mul (a:=-u) (b:=-u) (c:=-x) (d:=-x) (by omega) (by omega) (by omega) (by omega)
     rwa [Int.neg_mul_neg,Int.neg_mul_neg] at this
   · rw [decide_eq_false g]
     show 0 ≤ x * x
     exact isq_nn x
theorem sq_le_max {l u x:Int} (h1:l ≤ x) (h2:x ≤ u):x * x ≤ l * l ∨ x * x ≤ u * u:=by
 rcases Int.le_total 0 x with k | k
 · exact .inr (Int.mul_le_mul h2 h2 k (by omega))
 · left
   have:=Int.mul_le_mul (a:=-x) (b:=-x) (c:=-l) (d:=-l) (by omega) (by omega) (by omega) (by omega)
   rwa [Int.neg_mul_neg,Int.neg_mul_neg] at this
noncomputable def skip (cx cy h:Int):Bool :=
 let u0:=Int.sub (Int.sub cx h) 4194304
 let u1:=Int.sub (Int.add cx h) 4194304
 let v0:=Int.sub cy h
 let v1:=Int.add cy h
 let b:=sqL v0 v1
 let q:=Int.add (sqL u0 u1) b
 let s:=Int.add q (Int.mul u0 16777216)
 let m:=Int.mul q s
 Bool.rec false (Bool.rec false (Bool.rec false
   (decide (Int.mul (Int.mul v1 v1) 70368744177664 < m)) (decide (Int.mul (Int.mul v0 v0) 70368744177664 < m)))
   (decide (17592186044416 < Int.add (sqL (Int.add u0 20971520) (Int.add u1 20971520)) b))) (decide (0 ≤ s))
def Inn (px py:Int):Prop:=((px - 4194304) * (px - 4194304) + py * py) * ((px - 4194304) * (px - 4194304) + py * py + (px - 4194304) * 16777216) ≤ py * py * 70368744177664 ∨ (px + 16777216) * (px + 16777216) + py * py ≤ 17592186044416
theorem skip_ok {cx cy h px py:Int} (hs:skip cx cy h=true) (x1:cx - h ≤ px) (x2:px ≤ cx + h) (y1:cy - h ≤ py) (y2:py ≤ cy + h):¬ Inn px py:=by
 unfold skip at hs
 simp only [bool_rec,decide_eq_true_eq] at hs
 obtain ⟨h1,h2,h3,h4⟩:=hs
 have a1:=sqL_le (l:=Int.sub (Int.sub cx h) 4194304) (u:=Int.sub (Int.add cx h) 4194304) (x:=px - 4194304) (by show cx - h - 4194304 ≤ _; omega) (by show _ ≤ cx + h - 4194304; omega)
 have a2:=sqL_le (l:=Int.sub cy h) (u:=Int.add cy h) (x:=py) y1 y2
 have a3:=sqL_le (l:=Int.add (Int.sub (Int.sub cx h) 4194304) 20971520) (u:=Int.add (Int.sub (Int.add cx h) 4194304) 20971520) (x:=px + 16777216) (by show cx - h - 4194304 + 20971520 ≤ _; omega) (by show _ ≤ cx + h - 4194304 + 20971520; omega)
 have a4:=sq_le_max (l:=Int.sub cy h) (u:=Int.add cy h) (x:=py) y1 y2
 have a5:Int.sub (Int.sub cx h) 4194304 ≤ px - 4194304:=by show cx - h - 4194304 ≤ _; omega
 have n1:0 ≤ sqL (Int.sub (Int.sub cx h) 4194304) (Int.sub (Int.add cx h) 4194304):=sqL_nn _ _
 have n2:0 ≤ sqL (Int.sub cy h) (Int.add cy h):=sqL_nn _ _
 generalize sqL (Int.sub (Int.sub cx h) 4194304) (Int.sub (Int.add cx h) 4194304)=A at *
 generalize sqL (Int.sub cy h) (Int.add cy h)=B at *
 generalize sqL (Int.add (Int.sub (Int.sub cx h) 4194304) 20971520) (Int.add (Int.sub (Int.add cx h) 4194304) 20971520)=C at *
 generalize Int.sub (Int.sub cx h) 4194304=u0 at *
 generalize Int.sub cy h=v0 at *
 generalize Int.add cy h=v1 at *
 rintro (g | g)
 · replace h1:0 ≤ A + B + u0 * 16777216:=h1
   replace h3:v0 * v0 * 70368744177664 < (A + B) * (A + B + u0 * 16777216):=h3
   replace h4:v1 * v1 * 70368744177664 < (A + B) * (A + B + u0 * 16777216):=h4
   have k1:(A + B) * (A + B + u0 * 16777216) ≤ ((px - 4194304) * (px - 4194304) + py * py) * ((px - 4194304) * (px - 4194304) + py * py + (px - 4194304) * 16777216) :=
     Int.mul_le_mul (by omega) (by omega) (by omega) (by omega)
   omega
 · replace h2:17592186044416 < C + B:=h2
   omega
noncomputable def okB (cx cy:Int) (h:Nat):Bool :=
 let rho:=Nat.add h (Nat.div (Nat.mul h 27) 64)
 Bool.rec false (orb cx cy rho 40 0 0 0 0 0) (Nat.ble (Nat.mul 2 (Nat.mul h h)) (Nat.mul rho rho))
def Fine (px py:Int):Prop:=∀ k,k < 40 → Le (zr px py k).1 (zr px py k).2 33554432
theorem okB_ok {cx cy:Int} {h:Nat} {px py:Int} (ho:okB cx cy h=true) (x1:cx - h ≤ px) (x2:px ≤ cx + h) (y1:cy - h ≤ py) (y2:py ≤ cy + h):Fine px py:=by
 unfold okB at ho
 simp only [bool_rec] at ho
 obtain ⟨h1,h2⟩:=ho
 have h1:=Nat.le_of_ble_eq_true h1
 generalize Nat.add h (Nat.div (Nat.mul h 27) 64)=rho at *
 replace h1:2 * (h * h) ≤ rho * rho:=h1
 have ht:Le ((px:Rat) - cx) ((py:Rat) - cy) rho:=by
   have g1:=sq_le_max (l:=-h) (u:=h) (x:=px - cx) (by omega) (by omega)
   have g2:=sq_le_max (l:=-h) (u:=h) (x:=py - cy) (by omega) (by omega)
   rw [Int.neg_mul_neg] at g1 g2
   have g3:(px - cx) * (px - cx) + (py - cy) * (py - cy) ≤ (rho:Int) * rho:=by
     have:(2 * (h * h:Nat):Int) ≤ (rho * rho:Nat):=by exact_mod_cast h1
     push_cast at this
     omega
   refine ⟨cast_nn _,?_⟩
   have e1:(px:Rat) - cx=((px - cx:Int):Rat):=by simp
   have e2:(py:Rat) - cy=((py - cy:Int):Rat):=by simp
   rw [e1,e2]
   exact_mod_cast g3
 intro k hk
 have:=orb_all ht (n:=40) (k:=0) (X:=0) (Y:=0) (P:=0) (Q:=0) (R:=0) ⟨0,0,⟨by decide,by decide +kernel⟩,by simp [zr]; decide +kernel,by simp [zr]; decide +kernel⟩ h2 k hk
 rwa [Nat.zero_add] at this
noncomputable def tst (cx cy:Int) (j:Nat):Bool :=
 Bool.rec (Bool.rec false (okB cx cy (Nat.pow 2 j)) (Nat.ble j 22)) true (skip cx cy (Int.ofNat (Nat.pow 2 j)))
noncomputable def go (j:Nat):Int → Int → Bool :=
 Nat.rec (fun cx cy => tst cx cy 0) (fun j ih cx cy =>
   Bool.rec (Bool.rec false (Bool.rec false (Bool.rec false
     (ih (Int.add cx (Int.ofNat (Nat.pow 2 j))) (Int.add cy (Int.ofNat (Nat.pow 2 j))))
     (ih (Int.add cx (Int.ofNat (Nat.pow 2 j))) (Int.sub cy (Int.ofNat (Nat.pow 2 j)))))
     (ih (Int.sub cx (Int.ofNat (Nat.pow 2 j))) (Int.add cy (Int.ofNat (Nat.pow 2 j)))))
     (ih (Int.sub cx (Int.ofNat (Nat.pow 2 j))) (Int.sub cy (Int.ofNat (Nat.pow 2 j))))) true (tst cx cy (Nat.succ j))) j
def Good (j:Nat) (cx cy:Int):Prop:=∀ px py:Int,cx - (2 ^ j:Nat) ≤ px → px ≤ cx + (2 ^ j:Nat) → cy - (2 ^ j:Nat) ≤ py → py ≤ cy + (2 ^ j:Nat) → Inn px py → Fine px py
theorem tst_ok {j:Nat} {cx cy:Int} (h:tst cx cy j=true):Good j cx cy:=by
 intro px py x1 x2 y1 y2 hi
 unfold tst at h
 cases hs:skip cx cy (Int.ofNat (Nat.pow 2 j)) with
 | true => exact absurd hi (skip_ok hs x1 x2 y1 y2)
 | false =>
   rw [hs] at h
   have h:=(bool_rec.1 h).2
   exact okB_ok h x1 x2 y1 y2
theorem Good.four {j:Nat} {cx cy:Int} (a:Good j (cx - (2 ^ j:Nat)) (cy - (2 ^ j:Nat))) (b:Good j (cx - (2 ^ j:Nat)) (cy + (2 ^ j:Nat))) (c:Good j (cx + (2 ^ j:Nat)) (cy - (2 ^ j:Nat))) (d:Good j (cx + (2 ^ j:Nat)) (cy + (2 ^ j:Nat))):Good (j + 1) cx cy:=by
 intro px py x1 x2 y1 y2 hi
 rw [Nat.pow_succ] at x1 x2 y1 y2
 unfold Good at a b c d
 generalize 2 ^ j=h at *
 by_cases hx:px ≤ cx <;> by_cases hy:py ≤ cy
 · exact a px py (by omega) (by omega) (by omega) (by omega) hi
 · exact b px py (by omega) (by omega) (by omega) (by omega) hi
 · exact c px py (by omega) (by omega) (by omega) (by omega) hi
 · exact d px py (by omega) (by omega) (by omega) (by omega) hi
theorem go_ok:∀ {j:Nat} {cx cy:Int},go j cx cy=true → Good j cx cy
 | 0,cx,cy,h => tst_ok h
 | j + 1,cx,cy,h => by
   cases ht:tst cx cy (j + 1) with
   | true => exact tst_ok ht
   | false =>
     replace h:Bool.rec (motive:=fun _ => Bool) (Bool.rec (motive:=fun _ => Bool) false (Bool.rec (motive:=fun _ => Bool) false (Bool.rec (motive:=fun _ => Bool) false (go j (cx + (2 ^ j:Nat)) (cy + (2 ^ j:Nat))) (go j (cx + (2 ^ j:Nat)) (cy - (2 ^ j:Nat)))) (go j (cx - (2 ^ j:Nat)) (cy + (2 ^ j:Nat)))) (go j (cx - (2 ^ j:Nat)) (cy - (2 ^ j:Nat)))) true (tst cx cy (j + 1))=true:=h
     rw [ht] at h
     replace h:=(bool_rec.1 h)
     obtain ⟨h1,h⟩:=h
     obtain ⟨h2,h⟩:=bool_rec.1 h
     obtain ⟨h3,h4⟩:=bool_rec.1 h
     exact Good.four (go_ok h1) (go_ok h2) (go_ok h3) (go_ok h4)
end Go.Proofs.YthhfljldbfgpcaaGreatDoor.Cov
end

section
namespace Go.Proofs.YthhfljldbfgpcaaGreatDoor.Cov
theorem cv0:Good 25 (-100663296) 33554432:=go_ok (by decide +kernel)
theorem cv3:Good 24 (-50331648) 50331648:=go_ok (by decide +kernel)
theorem cv17:Good 20 (-13631488) 1048576:=go_ok (by decide +kernel)
theorem cv31:Good 20 (-11534336) 7340032:=go_ok (by decide +kernel)
theorem cv33:Good 19 (-9961472) 6815744:=go_ok (by decide +kernel)
theorem cv49:Good 21 (-6291456) 14680064:=go_ok (by decide +kernel)
theorem cv54:Good 19 (-2621440) 12058624:=go_ok (by decide +kernel)
theorem cv64:Good 26 (-67108864) 201326592:=go_ok (by decide +kernel)
theorem cv85:Good 18 6029312 2883584:=go_ok (by decide +kernel)
theorem cv92:Good 18 5505024 4980736:=go_ok (by decide +kernel)
theorem cv97:Good 19 4718592 7864320:=go_ok (by decide +kernel)
theorem cv100:Good 20 7340032 5242880:=go_ok (by decide +kernel)
theorem cv101:Good 20 7340032 7340032:=go_ok (by decide +kernel)
theorem cv106:Good 20 1048576 11534336:=go_ok (by decide +kernel)
theorem cv107:Good 19 2621440 8912896:=go_ok (by decide +kernel)
theorem cv113:Good 21 6291456 10485760:=go_ok (by decide +kernel)
theorem cv123:Good 25 33554432 100663296:=go_ok (by decide +kernel)
end Go.Proofs.YthhfljldbfgpcaaGreatDoor.Cov
end

section
namespace Go.Proofs.YthhfljldbfgpcaaGreatDoor.Cov
theorem cv1:Good 25 (-100663296) 100663296:=go_ok (by decide +kernel)
theorem cv4:Good 22 (-29360128) 4194304:=go_ok (by decide +kernel)
theorem cv13:Good 22 (-20971520) 12582912:=go_ok (by decide +kernel)
theorem cv14:Good 23 (-25165824) 25165824:=go_ok (by decide +kernel)
theorem cv19:Good 21 (-14680064) 6291456:=go_ok (by decide +kernel)
theorem cv23:Good 19 (-11010048) 2621440:=go_ok (by decide +kernel)
theorem cv28:Good 19 (-12058624) 5767168:=go_ok (by decide +kernel)
theorem cv29:Good 19 (-11010048) 4718592:=go_ok (by decide +kernel)
theorem cv53:Good 19 (-2621440) 11010048:=go_ok (by decide +kernel)
theorem cv55:Good 20 (-1048576) 9437184:=go_ok (by decide +kernel)
theorem cv67:Good 17 4325376 131072:=go_ok (by decide +kernel)
theorem cv69:Good 17 4587520 131072:=go_ok (by decide +kernel)
theorem cv74:Good 19 4718592 1572864:=go_ok (by decide +kernel)
theorem cv76:Good 18 5505024 1310720:=go_ok (by decide +kernel)
theorem cv89:Good 19 4718592 4718592:=go_ok (by decide +kernel)
theorem cv95:Good 19 5767168 5767168:=go_ok (by decide +kernel)
theorem cv114:Good 21 6291456 14680064:=go_ok (by decide +kernel)
theorem cv124:Good 25 100663296 33554432:=go_ok (by decide +kernel)
end Go.Proofs.YthhfljldbfgpcaaGreatDoor.Cov
end

section
namespace Go.Proofs.YthhfljldbfgpcaaGreatDoor.Cov
theorem cv25:Good 20 (-9437184) 1048576:=go_ok (by decide +kernel)
theorem cv30:Good 19 (-11010048) 5767168:=go_ok (by decide +kernel)
theorem cv38:Good 22 (-4194304) 4194304:=go_ok (by decide +kernel)
theorem cv39:Good 19 (-7864320) 8912896:=go_ok (by decide +kernel)
theorem cv40:Good 19 (-7864320) 9961472:=go_ok (by decide +kernel)
theorem cv44:Good 19 (-5767168) 8912896:=go_ok (by decide +kernel)
theorem cv48:Good 20 (-5242880) 11534336:=go_ok (by decide +kernel)
theorem cv71:Good 18 4456448 786432:=go_ok (by decide +kernel)
theorem cv79:Good 18 6029312 1835008:=go_ok (by decide +kernel)
theorem cv88:Good 20 7340032 3145728:=go_ok (by decide +kernel)
theorem cv91:Good 18 5505024 4456448:=go_ok (by decide +kernel)
theorem cv105:Good 19 1572864 9961472:=go_ok (by decide +kernel)
theorem cv112:Good 21 2097152 14680064:=go_ok (by decide +kernel)
theorem cv118:Good 23 25165824 8388608:=go_ok (by decide +kernel)
theorem cv125:Good 25 100663296 100663296:=go_ok (by decide +kernel)
end Go.Proofs.YthhfljldbfgpcaaGreatDoor.Cov
end

section
namespace Go.Proofs.YthhfljldbfgpcaaGreatDoor.Cov
theorem cv5:Good 22 (-29360128) 12582912:=go_ok (by decide +kernel)
theorem cv8:Good 20 (-19922944) 1048576:=go_ok (by decide +kernel)
theorem cv15:Good 20 (-15728640) 1048576:=go_ok (by decide +kernel)
theorem cv20:Good 20 (-11534336) 1048576:=go_ok (by decide +kernel)
theorem cv22:Good 19 (-12058624) 3670016:=go_ok (by decide +kernel)
theorem cv65:Good 21 2097152 2097152:=go_ok (by decide +kernel)
theorem cv72:Good 18 4980736 262144:=go_ok (by decide +kernel)
theorem cv73:Good 18 4980736 786432:=go_ok (by decide +kernel)
theorem cv78:Good 18 6029312 1310720:=go_ok (by decide +kernel)
theorem cv81:Good 19 4718592 3670016:=go_ok (by decide +kernel)
theorem cv90:Good 19 4718592 5767168:=go_ok (by decide +kernel)
theorem cv96:Good 19 4718592 6815744:=go_ok (by decide +kernel)
theorem cv110:Good 19 3670016 9961472:=go_ok (by decide +kernel)
theorem cv115:Good 22 12582912 4194304:=go_ok (by decide +kernel)
theorem cv119:Good 23 25165824 25165824:=go_ok (by decide +kernel)
theorem cv126:Good 26 67108864 201326592:=go_ok (by decide +kernel)
end Go.Proofs.YthhfljldbfgpcaaGreatDoor.Cov
end

section
namespace Go.Proofs.YthhfljldbfgpcaaGreatDoor.Cov
theorem cv6:Good 21 (-23068672) 2097152:=go_ok (by decide +kernel)
theorem cv7:Good 21 (-23068672) 6291456:=go_ok (by decide +kernel)
theorem cv11:Good 20 (-17825792) 3145728:=go_ok (by decide +kernel)
theorem cv26:Good 20 (-9437184) 3145728:=go_ok (by decide +kernel)
theorem cv36:Good 19 (-8912896) 7864320:=go_ok (by decide +kernel)
theorem cv37:Good 22 (-12582912) 12582912:=go_ok (by decide +kernel)
theorem cv50:Good 20 (-3145728) 9437184:=go_ok (by decide +kernel)
theorem cv68:Good 17 4325376 393216:=go_ok (by decide +kernel)
theorem cv70:Good 17 4587520 393216:=go_ok (by decide +kernel)
theorem cv75:Good 19 5767168 524288:=go_ok (by decide +kernel)
theorem cv82:Good 18 5505024 2359296:=go_ok (by decide +kernel)
theorem cv93:Good 18 6029312 4456448:=go_ok (by decide +kernel)
theorem cv109:Good 19 3670016 8912896:=go_ok (by decide +kernel)
theorem cv111:Good 20 3145728 11534336:=go_ok (by decide +kernel)
theorem cv116:Good 22 12582912 12582912:=go_ok (by decide +kernel)
theorem cv120:Good 24 16777216 50331648:=go_ok (by decide +kernel)
end Go.Proofs.YthhfljldbfgpcaaGreatDoor.Cov
end

section
namespace Go.Proofs.YthhfljldbfgpcaaGreatDoor.Cov
theorem cv2:Good 24 (-50331648) 16777216:=go_ok (by decide +kernel)
theorem cv12:Good 21 (-18874368) 6291456:=go_ok (by decide +kernel)
theorem cv16:Good 20 (-15728640) 3145728:=go_ok (by decide +kernel)
theorem cv18:Good 20 (-13631488) 3145728:=go_ok (by decide +kernel)
theorem cv34:Good 19 (-9961472) 7864320:=go_ok (by decide +kernel)
theorem cv35:Good 19 (-8912896) 6815744:=go_ok (by decide +kernel)
theorem cv41:Good 19 (-6815744) 8912896:=go_ok (by decide +kernel)
theorem cv51:Good 19 (-3670016) 11010048:=go_ok (by decide +kernel)
theorem cv56:Good 19 (-1572864) 11010048:=go_ok (by decide +kernel)
theorem cv57:Good 19 (-1572864) 12058624:=go_ok (by decide +kernel)
theorem cv59:Good 19 (-524288) 12058624:=go_ok (by decide +kernel)
theorem cv60:Good 21 (-2097152) 14680064:=go_ok (by decide +kernel)
theorem cv62:Good 24 (-16777216) 50331648:=go_ok (by decide +kernel)
theorem cv84:Good 18 6029312 2359296:=go_ok (by decide +kernel)
theorem cv104:Good 19 1572864 8912896:=go_ok (by decide +kernel)
theorem cv121:Good 24 50331648 16777216:=go_ok (by decide +kernel)
end Go.Proofs.YthhfljldbfgpcaaGreatDoor.Cov
end

section
namespace Go.Proofs.YthhfljldbfgpcaaGreatDoor.Cov
theorem cv9:Good 20 (-19922944) 3145728:=go_ok (by decide +kernel)
theorem cv10:Good 20 (-17825792) 1048576:=go_ok (by decide +kernel)
theorem cv21:Good 19 (-12058624) 2621440:=go_ok (by decide +kernel)
theorem cv27:Good 19 (-12058624) 4718592:=go_ok (by decide +kernel)
theorem cv43:Good 20 (-7340032) 11534336:=go_ok (by decide +kernel)
theorem cv46:Good 19 (-4718592) 8912896:=go_ok (by decide +kernel)
theorem cv58:Good 19 (-524288) 11010048:=go_ok (by decide +kernel)
theorem cv61:Good 23 (-8388608) 25165824:=go_ok (by decide +kernel)
theorem cv63:Good 25 (-33554432) 100663296:=go_ok (by decide +kernel)
theorem cv66:Good 21 2097152 6291456:=go_ok (by decide +kernel)
theorem cv77:Good 18 5505024 1835008:=go_ok (by decide +kernel)
theorem cv86:Good 19 5767168 3670016:=go_ok (by decide +kernel)
theorem cv87:Good 20 7340032 1048576:=go_ok (by decide +kernel)
theorem cv94:Good 18 6029312 4980736:=go_ok (by decide +kernel)
theorem cv122:Good 24 50331648 50331648:=go_ok (by decide +kernel)
end Go.Proofs.YthhfljldbfgpcaaGreatDoor.Cov
end

section
namespace Go.Proofs.YthhfljldbfgpcaaGreatDoor.Cov
theorem cv24:Good 19 (-11010048) 3670016:=go_ok (by decide +kernel)
theorem cv32:Good 20 (-9437184) 5242880:=go_ok (by decide +kernel)
theorem cv42:Good 19 (-6815744) 9961472:=go_ok (by decide +kernel)
theorem cv45:Good 19 (-5767168) 9961472:=go_ok (by decide +kernel)
theorem cv47:Good 19 (-4718592) 9961472:=go_ok (by decide +kernel)
theorem cv52:Good 19 (-3670016) 12058624:=go_ok (by decide +kernel)
theorem cv80:Good 19 4718592 2621440:=go_ok (by decide +kernel)
theorem cv83:Good 18 5505024 2883584:=go_ok (by decide +kernel)
theorem cv98:Good 19 5767168 6815744:=go_ok (by decide +kernel)
theorem cv99:Good 19 5767168 7864320:=go_ok (by decide +kernel)
theorem cv102:Good 19 524288 8912896:=go_ok (by decide +kernel)
theorem cv103:Good 19 524288 9961472:=go_ok (by decide +kernel)
theorem cv108:Good 19 2621440 9961472:=go_ok (by decide +kernel)
theorem cv117:Good 23 8388608 25165824:=go_ok (by decide +kernel)
end Go.Proofs.YthhfljldbfgpcaaGreatDoor.Cov
end
