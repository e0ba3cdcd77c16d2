/- Merged texts: DuB. -/
import Derived.Test.YthhfljldbfgpcaaGreatDoorT37
set_option linter.all false
section
namespace Go.Proofs.YthhfljldbfgpcaaGreatDoor.Co
open Go.Conc
open Go.ConcN (sumTo upd sumTo_upd upd_ne upd_same)
def Ran (P:Program) (gs:Array Goroutine) (w:World) (sl:Option (Nat × Nat)) (t:Trace) (gs':Array Goroutine) (w':World) (sl':Option (Nat × Nat)) (t':Trace):Prop :=
 ∃ N,runNT P N (crowd gs w sl) t=(.next (crowd gs' w' sl'),t')
theorem Ran.refl {P:Program} {gs:Array Goroutine} {w:World} {sl:Option (Nat × Nat)} {t:Trace}:Ran P gs w sl t gs w sl t:=⟨0,rfl⟩
theorem Ran.head {P:Program} {gs gs1 gs':Array Goroutine} {w w1 w':World} {sl sl1 sl':Option (Nat × Nat)} {t t' ops:Trace} (h:stepT P (crowd gs w sl)=(.next (crowd gs1 w1 sl1),ops)) (k:Ran P gs1 w1 sl1 (t ++ ops) gs' w' sl' t'):Ran P gs w sl t gs' w' sl' t':=by
 obtain ⟨N,k⟩:=k
 exact ⟨N + 1,by simp only [runNT,h]; exact k⟩
theorem Ran.trans {P:Program} {gs gs1 gs':Array Goroutine} {w w1 w':World} {sl sl1 sl':Option (Nat × Nat)} {t t1 t':Trace} (h:Ran P gs w sl t gs1 w1 sl1 t1) (k:Ran P gs1 w1 sl1 t1 gs' w' sl' t'):Ran P gs w sl t gs' w' sl' t':=by
 obtain ⟨M,h⟩:=h
 obtain ⟨N,k⟩:=k
 exact ⟨M + N,by rw [runNT_add,h]; exact k⟩
theorem rely_trans {L R:Nat → Prop} {a b c:World} (h:Rely L R a b) (k:Rely L R b c):Rely L R a c :=
 ⟨Nat.le_trans h.1 k.1,fun x hx => (k.2.1 x hx).trans (h.2.1 x hx),k.2.2.1.trans h.2.2.1,k.2.2.2.trans h.2.2.2⟩
theorem still_g (c:Nat) (fr:Frame) (cs:List Frame):Still c (G fr cs):=.inl rfl
section
variable {P:Program} {c a b B0:Nat} {w0:World} {basea baseb:List Frame} {R:Nat → Prop} {PostA PostB:(Nat → Prop) → Frame → List Frame → World → Prop}
theorem run_one {La Lb:Nat → Prop} {fra:Frame} {csa:List Frame} {Wa:World} (hA:Co P (a == 0) basea R PostA La fra csa Wa):∀ (gs:Array Goroutine) (w:World) (sl:Option (Nat × Nat)) (t:Trace) (q:Nat → Nat) (gb:Goroutine),
   Sit P c a b B0 w0 gs w t q La Lb R → gs[a]?=some (G fra (csa ++ basea)) → gs[b]?=some gb → Still c gb → gb.status ≠ .running → Rely La R Wa w →
   ∃ gs' w' sl' t' q' La' fra' csa' Wa',Ran P gs w sl t gs' w' sl' t' ∧ gs'.size=gs.size ∧ gs'[a]?=some (G fra' (csa' ++ basea)) ∧ gs'[b]?=some gb ∧ PostA La' fra' csa' Wa' ∧ Rely La' R Wa' w' ∧ Rely Lb R w w' ∧
     Sit P c a b B0 w0 gs' w' t' q' La' Lb R ∧ ∃ d sl'',stepT P (crowd gs' w' sl')=runT P (crowd gs' (w'.at d) sl'') a:=by
 induction hA with
 | @stop La fra csa Wa hp =>
   intro gs w sl t q
   generalize hM:sumTo gs.size q=M
   induction M using Nat.strongRecOn generalizing gs w sl t q with
   | _ M ihM =>
     intro gb h ha hb sb nb hr
     obtain ⟨i,g,d,sl',hi,hg,hst⟩:=crowd_pick (P:=P) (w:=w) (sl:=sl) (h.awake ha hb (still_g c _ _) sb) ⟨a,_,ha,rfl⟩
     by_cases ia:i=a
     · subst ia
       exact ⟨gs,w,sl,t,q,La,fra,csa,Wa,.refl,rfl,ha,hb,hp,hr,rely_refl _ _ _,h,d,sl',hst⟩
     by_cases ib:i=b
     · subst ib; rw [hb] at hi; cases hi; exact absurd hg nb
     obtain ⟨gs1,ops,q1,k1,k2,k3,k4,k5,k6⟩:=h.slip ha hb (still_g c _ _) sb hi hg ia ib d sl'
     obtain ⟨gs',w',sl2,t',q',La',fra',csa',Wa',m1,m2,m3,m4,m5,m6,m7,m8,m9⟩:=ihM _ (by rw [← hM]; exact k6) gs1 (w.at d) sl' (t ++ ops) q1 (by rw [k2]) gb k5 k3 k4 sb nb (rely_at hr d)
     exact ⟨gs',w',sl2,t',q',La',fra',csa',Wa',m1.head (hst.trans k1),m2.trans k2,m3,m4,m5,m6,m7,m8,m9⟩
 | @go La fra csa Wa f1 c1 w1 n1 L1 hstep _ ih =>
   intro gs w sl t q
   generalize hM:sumTo gs.size q=M
   induction M using Nat.strongRecOn generalizing gs w sl t q with
   | _ M ihM =>
     intro gb h ha hb sb nb hr
     obtain ⟨i,g,d,sl',hi,hg,hst⟩:=crowd_pick (P:=P) (w:=w) (sl:=sl) (h.awake ha hb (still_g c _ _) sb) ⟨a,_,ha,rfl⟩
     by_cases ia:i=a
     · subst ia
       obtain ⟨e1,e2⟩:=hstep (w.at d) (rely_at hr d)
       obtain ⟨gs1,ops,k1,k2,k3,k4,k5,k6⟩:=h.own ha hb sb (sl:=sl') e1 e2
       obtain ⟨gs',w',sl2,t',q',La',fra',csa',Wa',m1,m2,m3,m4,m5,m6,m7,m8,m9⟩:=ih (w.at d) (rely_at hr d) gs1 _ sl' (t ++ ops) q gb k5 k3 k4 sb nb (rely_refl _ _ _)
       exact ⟨gs',w',sl2,t',q',La',fra',csa',Wa',m1.head (hst.trans k1),m2.trans k2,m3,m4,m5,m6,rely_trans k6 m7,m8,m9⟩
     by_cases ib:i=b
     · subst ib; rw [hb] at hi; cases hi; exact absurd hg nb
     obtain ⟨gs1,ops,q1,k1,k2,k3,k4,k5,k6⟩:=h.slip ha hb (still_g c _ _) sb hi hg ia ib d sl'
     obtain ⟨gs',w',sl2,t',q',La',fra',csa',Wa',m1,m2,m3,m4,m5,m6,m7,m8,m9⟩:=ihM _ (by rw [← hM]; exact k6) gs1 (w.at d) sl' (t ++ ops) q1 (by rw [k2]) gb k5 k3 k4 sb nb (rely_at hr d)
     exact ⟨gs',w',sl2,t',q',La',fra',csa',Wa',m1.head (hst.trans k1),m2.trans k2,m3,m4,m5,m6,m7,m8,m9⟩
theorem run_two {La:Nat → Prop} {fra:Frame} {csa:List Frame} {Wa:World} (hA:Co P (a == 0) basea R PostA La fra csa Wa):∀ {Lb:Nat → Prop} {frb:Frame} {csb:List Frame} {Wb:World},Co P (b == 0) baseb R PostB Lb frb csb Wb →
   ∀ (gs:Array Goroutine) (w:World) (sl:Option (Nat × Nat)) (t:Trace) (q:Nat → Nat),
   Sit P c a b B0 w0 gs w t q La Lb R → gs[a]?=some (G fra (csa ++ basea)) → gs[b]?=some (G frb (csb ++ baseb)) → Rely La R Wa w → Rely Lb R Wb w →
   ∃ gs' w' sl' t' q' La' fra' csa' Wa' Lb' frb' csb' Wb',Ran P gs w sl t gs' w' sl' t' ∧ gs'.size=gs.size ∧ gs'[a]?=some (G fra' (csa' ++ basea)) ∧ gs'[b]?=some (G frb' (csb' ++ baseb)) ∧ Rely La' R Wa' w' ∧ Rely Lb' R Wb' w' ∧
     Sit P c a b B0 w0 gs' w' t' q' La' Lb' R ∧ ((PostA La' fra' csa' Wa' ∧ Co P (b == 0) baseb R PostB Lb' frb' csb' Wb' ∧ ∃ d sl'',stepT P (crowd gs' w' sl')=runT P (crowd gs' (w'.at d) sl'') a) ∨
       (PostB Lb' frb' csb' Wb' ∧ Co P (a == 0) basea R PostA La' fra' csa' Wa' ∧ ∃ d sl'',stepT P (crowd gs' w' sl')=runT P (crowd gs' (w'.at d) sl'') b)):=by
 induction hA with
 | @stop La fra csa Wa hp =>
   intro Lb frb csb Wb hB
   induction hB with
   | @stop Lb frb csb Wb hpb =>
     intro gs w sl t q
     generalize hM:sumTo gs.size q=M
     induction M using Nat.strongRecOn generalizing gs w sl t q with
     | _ M ihM =>
       intro h ha hb hr hrb
       obtain ⟨i,g,d,sl',hi,hg,hst⟩:=crowd_pick (P:=P) (w:=w) (sl:=sl) (h.awake ha hb (still_g c _ _) (still_g c _ _)) ⟨a,_,ha,rfl⟩
       by_cases ia:i=a
       · subst ia
         exact ⟨gs,w,sl,t,q,La,fra,csa,Wa,Lb,frb,csb,Wb,.refl,rfl,ha,hb,hr,hrb,h,.inl ⟨hp,.stop hpb,d,sl',hst⟩⟩
       by_cases ib:i=b
       · subst ib
         exact ⟨gs,w,sl,t,q,La,fra,csa,Wa,Lb,frb,csb,Wb,.refl,rfl,ha,hb,hr,hrb,h,.inr ⟨hpb,.stop hp,d,sl',hst⟩⟩
       obtain ⟨gs1,ops,q1,k1,k2,k3,k4,k5,k6⟩:=h.slip ha hb (still_g c _ _) (still_g c _ _) hi hg ia ib d sl'
       obtain ⟨gs',w',sl2,t',q',La',fra',csa',Wa',Lb',frb',csb',Wb',m1,m2,m3⟩:=ihM _ (by rw [← hM]; exact k6) gs1 (w.at d) sl' (t ++ ops) q1 (by rw [k2]) k5 k3 k4 (rely_at hr d) (rely_at hrb d)
       exact ⟨gs',w',sl2,t',q',La',fra',csa',Wa',Lb',frb',csb',Wb',m1.head (hst.trans k1),m2.trans k2,m3⟩
   | @go Lb frb csb Wb f1 c1 w1 n1 L1 hstep hnext ih =>
     intro gs w sl t q
     generalize hM:sumTo gs.size q=M
     induction M using Nat.strongRecOn generalizing gs w sl t q with
     | _ M ihM =>
       intro h ha hb hr hrb
       obtain ⟨i,g,d,sl',hi,hg,hst⟩:=crowd_pick (P:=P) (w:=w) (sl:=sl) (h.awake ha hb (still_g c _ _) (still_g c _ _)) ⟨a,_,ha,rfl⟩
       by_cases ia:i=a
       · subst ia
         exact ⟨gs,w,sl,t,q,La,fra,csa,Wa,Lb,frb,csb,Wb,.refl,rfl,ha,hb,hr,hrb,h,.inl ⟨hp,.go f1 c1 w1 n1 L1 hstep hnext,d,sl',hst⟩⟩
       by_cases ib:i=b
       · subst ib
         obtain ⟨e1,e2⟩:=hstep (w.at d) (rely_at hrb d)
         obtain ⟨gs1,ops,k1,k2,k3,k4,k5,k6⟩:=h.swap.own hb ha (still_g c _ _) (sl:=sl') e1 e2
         obtain ⟨gs',w',sl2,t',q',La',fra',csa',Wa',Lb',frb',csb',Wb',m1,m2,m3⟩:=ih (w.at d) (rely_at hrb d) gs1 _ sl' (t ++ ops) q k5.swap k4 k3 (rely_trans hr k6) (rely_refl _ _ _)
         exact ⟨gs',w',sl2,t',q',La',fra',csa',Wa',Lb',frb',csb',Wb',m1.head (hst.trans k1),m2.trans k2,m3⟩
       obtain ⟨gs1,ops,q1,k1,k2,k3,k4,k5,k6⟩:=h.slip ha hb (still_g c _ _) (still_g c _ _) hi hg ia ib d sl'
       obtain ⟨gs',w',sl2,t',q',La',fra',csa',Wa',Lb',frb',csb',Wb',m1,m2,m3⟩:=ihM _ (by rw [← hM]; exact k6) gs1 (w.at d) sl' (t ++ ops) q1 (by rw [k2]) k5 k3 k4 (rely_at hr d) (rely_at hrb d)
       exact ⟨gs',w',sl2,t',q',La',fra',csa',Wa',Lb',frb',csb',Wb',m1.head (hst.trans k1),m2.trans k2,m3⟩
 | @go La fra csa Wa f1a c1a w1a n1a L1a hstepa hnexta iha =>
   intro Lb frb csb Wb hB
   induction hB with
   | @stop Lb frb csb Wb hpb =>
     intro gs w sl t q
     generalize hM:sumTo gs.size q=M
     induction M using Nat.strongRecOn generalizing gs w sl t q with
     | _ M ihM =>
       intro h ha hb hr hrb
       obtain ⟨i,g,d,sl',hi,hg,hst⟩:=crowd_pick (P:=P) (w:=w) (sl:=sl) (h.awake ha hb (still_g c _ _) (still_g c _ _)) ⟨a,_,ha,rfl⟩
       by_cases ia:i=a
       · subst ia
         obtain ⟨e1,e2⟩:=hstepa (w.at d) (rely_at hr d)
         obtain ⟨gs1,ops,k1,k2,k3,k4,k5,k6⟩:=h.own ha hb (still_g c _ _) (sl:=sl') e1 e2
         obtain ⟨gs',w',sl2,t',q',La',fra',csa',Wa',Lb',frb',csb',Wb',m1,m2,m3⟩:=iha (w.at d) (rely_at hr d) (.stop hpb) gs1 _ sl' (t ++ ops) q k5 k3 k4 (rely_refl _ _ _) (rely_trans hrb k6)
         exact ⟨gs',w',sl2,t',q',La',fra',csa',Wa',Lb',frb',csb',Wb',m1.head (hst.trans k1),m2.trans k2,m3⟩
       by_cases ib:i=b
       · subst ib
         exact ⟨gs,w,sl,t,q,La,fra,csa,Wa,Lb,frb,csb,Wb,.refl,rfl,ha,hb,hr,hrb,h,.inr ⟨hpb,.go f1a c1a w1a n1a L1a hstepa hnexta,d,sl',hst⟩⟩
       obtain ⟨gs1,ops,q1,k1,k2,k3,k4,k5,k6⟩:=h.slip ha hb (still_g c _ _) (still_g c _ _) hi hg ia ib d sl'
       obtain ⟨gs',w',sl2,t',q',La',fra',csa',Wa',Lb',frb',csb',Wb',m1,m2,m3⟩:=ihM _ (by rw [← hM]; exact k6) gs1 (w.at d) sl' (t ++ ops) q1 (by rw [k2]) k5 k3 k4 (rely_at hr d) (rely_at hrb d)
       exact ⟨gs',w',sl2,t',q',La',fra',csa',Wa',Lb',frb',csb',Wb',m1.head (hst.trans k1),m2.trans k2,m3⟩
   | @go Lb frb csb Wb f1 c1 w1 n1 L1 hstep hnext ih =>
     intro gs w sl t q
     generalize hM:sumTo gs.size q=M
     induction M using Nat.strongRecOn generalizing gs w sl t q with
     | _ M ihM =>
       intro h ha hb hr hrb
       obtain ⟨i,g,d,sl',hi,hg,hst⟩:=crowd_pick (P:=P) (w:=w) (sl:=sl) (h.awake ha hb (still_g c _ _) (still_g c _ _)) ⟨a,_,ha,rfl⟩
       by_cases ia:i=a
       · subst ia
         obtain ⟨e1,e2⟩:=hstepa (w.at d) (rely_at hr d)
         obtain ⟨gs1,ops,k1,k2,k3,k4,k5,k6⟩:=h.own ha hb (still_g c _ _) (sl:=sl') e1 e2
         obtain ⟨gs',w',sl2,t',q',La',fra',csa',Wa',Lb',frb',csb',Wb',m1,m2,m3⟩:=iha (w.at d) (rely_at hr d) (.go f1 c1 w1 n1 L1 hstep hnext) gs1 _ sl' (t ++ ops) q k5 k3 k4 (rely_refl _ _ _) (rely_trans hrb k6)
         exact ⟨gs',w',sl2,t',q',La',fra',csa',Wa',Lb',frb',csb',Wb',m1.head (hst.trans k1),m2.trans k2,m3⟩
       by_cases ib:i=b
       · subst ib
         obtain ⟨e1,e2⟩:=hstep (w.at d) (rely_at hrb d)
         obtain ⟨gs1,ops,k1,k2,k3,k4,k5,k6⟩:=h.swap.own hb ha (still_g c _ _) (sl:=sl') e1 e2
         obtain ⟨gs',w',sl2,t',q',La',fra',csa',Wa',Lb',frb',csb',Wb',m1,m2,m3⟩:=ih (w.at d) (rely_at hrb d) gs1 _ sl' (t ++ ops) q k5.swap k4 k3 (rely_trans hr k6) (rely_refl _ _ _)
         exact ⟨gs',w',sl2,t',q',La',fra',csa',Wa',Lb',frb',csb',Wb',m1.head (hst.trans k1),m2.trans k2,m3⟩
       obtain ⟨gs1,ops,q1,k1,k2,k3,k4,k5,k6⟩:=h.slip ha hb (still_g c _ _) (still_g c _ _) hi hg ia ib d sl'
       obtain ⟨gs',w',sl2,t',q',La',fra',csa',Wa',Lb',frb',csb',Wb',m1,m2,m3⟩:=ihM _ (by rw [← hM]; exact k6) gs1 (w.at d) sl' (t ++ ops) q1 (by rw [k2]) k5 k3 k4 (rely_at hr d) (rely_at hrb d)
       exact ⟨gs',w',sl2,t',q',La',fra',csa',Wa',Lb',frb',csb',Wb',m1.head (hst.trans k1),m2.trans k2,m3⟩
theorem rely_chan {L:Nat → Prop} {W w:World} {s:Nat} {tm:Bool} {d:Nat} (h:Rely L R W w) (hL:∀ x,L x ∨ R x → x ≠ c):Rely L R W ((w.at d).setChan c 0 #[] false s s tm) :=
 ⟨by simpa [World.setChan,World.at] using h.1,fun x hx => by simpa [World.setChan,World.at,Ne.symm (hL x hx)] using h.2.1 x hx,h.2.2.1,h.2.2.2⟩
theorem meet {z:Value} {KA:(Nat → Prop) → Frame → List Frame → World → Prop} {KB:Value → (Nat → Prop) → Frame → List Frame → World → Prop} {La Lb:Nat → Prop} {fra frb:Frame} {csa csb:List Frame} {Wa Wb:World}
   (hA:Co P (a == 0) basea R (fun L fr cs W => Stops P (a == 0) basea c (.recv z) fr cs ∧ KA L fr cs W) La fra csa Wa)
   (hB:Co P (b == 0) baseb R (fun L fr cs W => ∃ v z',Stops P (b == 0) baseb c (.send v z') fr cs ∧ KB v L fr cs W) Lb frb csb Wb)
   {gs:Array Goroutine} {w:World} {sl:Option (Nat × Nat)} {t:Trace} {q:Nat → Nat}
   (h:Sit P c a b B0 w0 gs w t q La Lb R) (ha:gs[a]?=some (G fra (csa ++ basea))) (hb:gs[b]?=some (G frb (csb ++ baseb))) (hra:Rely La R Wa w) (hrb:Rely Lb R Wb w) :
   ∃ gs' w' sl' t' q' La' fra' csa' Wa' Lb' frb' csb' Wb' v,Ran P gs w sl t gs' w' sl' t' ∧ gs'.size=gs.size ∧ gs'[a]?=some (G (fra'.finish (.tuple #[v,.bool true])) (csa' ++ basea)) ∧ gs'[b]?=some (G (frb'.finish undef) (csb' ++ baseb)) ∧
     Rely La' R Wa' w' ∧ Rely Lb' R Wb' w' ∧ KA La' fra' csa' Wa' ∧ KB v Lb' frb' csb' Wb' ∧
     ∀ R':Nat → Prop,(∀ x,R' x → Lb' x) → Sit P c a b B0 w0 gs' w' t' q' La' (fun x => Lb' x ∧ ¬ R' x) (fun x => R x ∨ R' x):=by
 obtain ⟨gs1,w1,sl1,t1,q1,La1,fra1,csa1,Wa1,Lb1,frb1,csb1,Wb1,m1,m2,m3,m4,m5,m6,m7,m8⟩:=run_two hA hB gs w sl t q h ha hb hra hrb
 rcases m8 with ⟨⟨hsa,hka⟩,hB1,d,sl2,hst⟩ | ⟨⟨v,z',hsb,hkb⟩,hA1,d,sl2,hst⟩
 · 
   obtain ⟨gs2,n1,n2,n3,n4,n5⟩:=m7.wait m3 m4 rfl hsa d sl2
   obtain ⟨gs3,w3,sl3,t3,q3,Lb3,frb3,csb3,Wb3,o1,o2,o3,o4,⟨v,z',hsb,hkb⟩,o6,o7,o8,d3,sl4,o9⟩:=run_one hB1 gs2 (w1.at d) sl2 t1 q1 _ n5.swap n4 n3 (Dir.still _ _ _) (by simp [parked]) (rely_at m6 d)
   obtain ⟨s,tm,hc⟩:=o8.chan
   have hpart:=o8.one (snd:=false) o4 (by simpa [Dir.kase,Dir.shape] using offersAt_parked_recv (G fra1 (csa1 ++ basea)) c z (.recv true) c)
   have hrun:=crowd_send_meets (P:=P) (sl:=sl4) o3 (hsb (w3.at d3)) hc o8.ne.symm o4 hpart
   have hra3:Rely La1 R Wa1 w3:=rely_trans (rely_at m5 d) o7
   refine ⟨_,_,sl4,t3 ++ _,q3,La1,fra1,csa1,Wa1,Lb3,frb3,csb3,Wb3,v,m1.trans (Ran.head (ops:=#[]) (hst.trans n1) (by rw [Array.append_empty]; exact o1.trans (Ran.head (o9.trans hrun) .refl))),by simp [o2,n2,m2],?_,?_,rely_chan hra3 (fun x hx => hx.elim (fun y => (o8.db x y).2.2.1) fun y => (o8.dr x y).1),rely_chan o6 (fun x hx => hx.elim (fun y => (o8.da x y).2.2.1) fun y => (o8.dr x y).1),hka,hkb,fun R' hR' => ?_⟩
   · have:=o8.ltb
     rw [Array.getElem?_setIfInBounds_ne o8.ne,Array.getElem?_setIfInBounds_self_of_lt this]
     rfl
   · rw [Array.getElem?_setIfInBounds_self_of_lt (by simpa using o8.lta)]
     rfl
   · exact Sit.passed o8.swap hR' hc (gs':=_) (by simp) (fun i ia ib => by rw [Array.getElem?_setIfInBounds_ne (Ne.symm ib),Array.getElem?_setIfInBounds_ne (Ne.symm ia)]) d3
 · 
   obtain ⟨gs2,n1,n2,n3,n4,n5⟩:=m7.swap.wait m4 m3 rfl hsb d sl2
   obtain ⟨gs3,w3,sl3,t3,q3,La3,fra3,csa3,Wa3,o1,o2,o3,o4,⟨hsa,hka⟩,o6,o7,o8,d3,sl4,o9⟩:=run_one hA1 gs2 (w1.at d) sl2 t1 q1 _ n5.swap n4 n3 (Dir.still _ _ _) (by simp [parked]) (rely_at m5 d)
   obtain ⟨s,tm,hc⟩:=o8.chan
   have hpart:=o8.one (snd:=true) o4 (by simpa [Dir.kase,Dir.shape] using offersAt_parked_send (G frb1 (csb1 ++ baseb)) c v z' .send c)
   have hrun:=crowd_recv_meets (P:=P) (sl:=sl4) o3 (hsa (w3.at d3)) hc o8.ne.symm o4 hpart
   have hrb3:Rely Lb1 R Wb1 w3:=rely_trans (rely_at m6 d) o7
   refine ⟨_,_,sl4,t3 ++ _,q3,La3,fra3,csa3,Wa3,Lb1,frb1,csb1,Wb1,v,m1.trans (Ran.head (ops:=#[]) (hst.trans n1) (by rw [Array.append_empty]; exact o1.trans (Ran.head (o9.trans hrun) .refl))),by simp [o2,n2,m2],?_,?_,rely_chan o6 (fun x hx => hx.elim (fun y => (o8.da x y).2.2.1) fun y => (o8.dr x y).1),rely_chan hrb3 (fun x hx => hx.elim (fun y => (o8.db x y).2.2.1) fun y => (o8.dr x y).1),hka,hkb,fun R' hR' => ?_⟩
   · rw [Array.getElem?_setIfInBounds_self_of_lt (by simpa using o8.lta)]
     rfl
   · have:=o8.ltb
     rw [Array.getElem?_setIfInBounds_ne o8.ne,Array.getElem?_setIfInBounds_self_of_lt this]
     rfl
   · exact Sit.passed o8 hR' hc (gs':=_) (by simp) (fun i ia ib => by rw [Array.getElem?_setIfInBounds_ne (Ne.symm ia),Array.getElem?_setIfInBounds_ne (Ne.symm ib)]) d3
end
end Go.Proofs.YthhfljldbfgpcaaGreatDoor.Co
end
