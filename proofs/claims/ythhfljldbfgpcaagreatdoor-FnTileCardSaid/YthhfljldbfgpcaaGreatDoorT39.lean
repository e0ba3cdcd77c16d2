/- Merged texts: DuC, HwC, Hnd. -/
import Derived.Test.YthhfljldbfgpcaaGreatDoorT38
import Derived.Test.YthhfljldbfgpcaaGreatDoorT36
import Derived.Test.YthhfljldbfgpcaaGreatDoorT20
import Derived.Conc.EventLaws
import Derived.Conc.Own2
import Derived.Conc.Listed
import Derived.Conc.Own5
set_option linter.all false
section
namespace Go.Proofs.YthhfljldbfgpcaaGreatDoor.Co
open Go.Conc
open Go.ConcN (sumTo upd sumTo_upd upd_ne upd_same)
structure Shut (P:Program) (c p B0:Nat) (w0:World) (gs:Array Goroutine) (w:World) (t:Trace) (q:Nat → Nat) (La R:Nat → Prop):Prop where
 chan:∃ s r tm,w.heap[c]?=some (.chan 0 #[] true s r tm)
 lt:0 < gs.size
 old:∀ i g,i ≠ 0 → gs[i]?=some g → QuitsD P (q i) (Deaf t i) g
 above:∀ i,gs.size ≤ i → Deaf t i=0
 low:∀ x,La x ∨ x=c → B0 ≤ x
 da:∀ x,La x → ¬ R x ∧ x ≠ c ∧ x < w.heap.size
 dr:∀ x,R x → x ≠ c ∧ x < w.heap.size
 clean:∀ said,¬ Race said t
 ma:May t 0 La R
 known:∀ i x,touchAt t i=some x → x.loc.isMemory=true → Knows t 0 i ∨ Before t i p
 over:∀ i g,t.g? i=some g → g ≠ 0 → t.counts i → (∃ k,t.g? k=some 0 ∧ HappensBefore t i k) ∨ Before t i p
 close:∃ x,t[p]?=some x ∧ x.act=.close c ∧ t.heard p
 hears:Deaf t 0=0
 seen:∀ op ∈ t,op.act.low w.heap.size
 kept:B0 ≤ w.heap.size ∧ (∀ x,x < B0 → w.heap[x]?=w0.heap[x]?) ∧ w.tape=w0.tape ∧ w.os=w0.os ∧ w.output=w0.output
section
variable {P:Program} {c p B0:Nat} {w0:World} {gs:Array Goroutine} {w:World} {t:Trace} {q:Nat → Nat} {La R:Nat → Prop}
theorem shutOver_app {u:Trace} (h:∀ i g,t.g? i=some g → g ≠ 0 → t.counts i → (∃ k,t.g? k=some 0 ∧ HappensBefore t i k) ∨ Before t i p) (hu:∀ op ∈ u,op.g=0 ∨ op.act.touch?=none) :
   ∀ i g,(t ++ u).g? i=some g → g ≠ 0 → (t ++ u).counts i → (∃ k,(t ++ u).g? k=some 0 ∧ HappensBefore (t ++ u) i k) ∨ Before (t ++ u) i p:=by
 intro i g hg ha hc
 obtain ⟨x,hx,_⟩:=hc
 obtain ⟨op,hop,hox⟩:=touch_of hx
 rcases getElem?_append_cases hop with ⟨hi,hop'⟩ | ⟨_,hopu⟩
 · rcases h i g (by simpa [Trace.g?,getElem?_append_old hi] using hg) ha ((counts_old hi).1 ⟨x,hx,‹_›⟩) with ⟨j,hj,hbf⟩ | h1
   · have hjl:j < t.size:=by
       unfold Trace.g? at hj
       obtain ⟨z,hz,_⟩:=Option.map_eq_some_iff.1 hj
       exact lt_size_of_getElem? hz
     exact .inl ⟨j,by simpa [Trace.g?,getElem?_append_old hjl] using hj,hb_app u hbf⟩
   · exact .inr (h1.app u)
 · rcases hu op hopu with h0 | h0
   · exact absurd (by simpa [Trace.g?,hop,h0] using hg.symm) ha
   · rw [h0] at hox; cases hox
theorem shutKnown_app {u:Trace} (h:∀ i x,touchAt t i=some x → x.loc.isMemory=true → Knows t 0 i ∨ Before t i p) (hu:∀ op ∈ u,op.g=0 ∨ op.act.touch?=none) :
   ∀ i x,touchAt (t ++ u) i=some x → x.loc.isMemory=true → Knows (t ++ u) 0 i ∨ Before (t ++ u) i p:=by
 intro i x hx hm
 rcases touch_new hx with h1 | ⟨op,h1,h2,h3⟩
 · exact (h i x h1 hm).imp (·.app u) (·.app u)
 · rcases hu op h1 with h0 | h0
   · exact .inl (h0 ▸ knows_own h2)
   · rw [h0] at h3; cases h3
theorem closeApp {u:Trace} (h:∃ x,t[p]?=some x ∧ x.act=.close c ∧ t.heard p):∃ x,(t ++ u)[p]?=some x ∧ x.act=.close c ∧ (t ++ u).heard p:=by
 obtain ⟨x,h1,h2,h3⟩:=h
 have hlt:=lt_size_of_getElem? h1
 exact ⟨x,by rw [getElem?_append_old hlt]; exact h1,h2,(heard_old hlt).2 h3⟩
theorem Shut.awake (h:Shut P c p B0 w0 gs w t q La R) {ga:Goroutine} (ha:gs[0]?=some ga) (sa:ga.status=.running):∀ g ∈ gs,awake g:=by
 intro g hg
 obtain ⟨i,hi⟩:=Array.mem_iff_getElem?.1 hg
 by_cases ia:i=0
 · subst ia; rw [ha] at hi; cases hi; exact awake_of (.inl sa)
 exact awake_of ((h.old i g ia hi).status.elim .inl fun x => .inr (.inr x))
theorem Shut.own (h:Shut P c p B0 w0 gs w t q La R) {ga g':Goroutine} (ha:gs[0]?=some ga) {d:Nat} {sl:Option (Nat × Nat)} {w':World} {n:Array Event} {La1:Nat → Prop}
   (hst:stepG P true ga (w.at d)=.go g' w' n) (hd:Did La R (w.at d) La1 w' n) :
   ∃ gs' ops,runT P (crowd gs (w.at d) sl) 0=(.next (crowd gs' w' sl),ops) ∧ gs'.size=gs.size ∧ gs'[0]?=some g' ∧ Shut P c p B0 w0 gs' w' (t ++ ops) q La1 R:=by
 have hrun:=runT_crowd_go (P:=P) (sl:=sl) ha (show stepG P (0 == 0) ga (w.at d)=_ from hst)
 have hnew:∀ x,La1 x → La x ∨ w.heap.size ≤ x:=hd.new
 have hsz:w.heap.size ≤ w'.heap.size:=hd.size
 have hkept:∀ x,x < w.heap.size → ¬ La x → w'.heap[x]?=w.heap[x]?:=hd.kept
 obtain ⟨s,r,tm,hc⟩:=h.chan
 have hclt:c < w.heap.size:=(Array.getElem?_eq_some_iff.1 hc).1
 have hEv:∀ e ∈ n,EvL (fun _ => False) w'.heap.size e:=fun e x => evC_evL (hd.evs e x) hd.lt fun b hb => Nat.lt_of_lt_of_le (h.dr b hb).2 hsz
 have hf:May t 0 La1 R:=h.ma.fresh h.seen hnew
 refine ⟨_,_,hrun,by simp,by simp [h.lt],?_⟩
 refine ⟨⟨s,r,tm,?_⟩,by simp [h.lt],fun i g ia hi => ?_,fun i hi => ?_,fun x hx => ?_,fun x hx => ?_,fun x hx => ?_,hf.noRace h.clean hd.evs,hf.self,shutKnown_app h.known fun op hop => .inl (ofEv_g op hop),shutOver_app h.over fun op hop => .inl (ofEv_g op hop),closeApp h.close,?_,?_,?_⟩
 · rw [hkept c hclt fun x => (h.da c x).2.1 rfl]; exact hc
 · rw [Array.getElem?_setIfInBounds_ne (Ne.symm ia),Array.getElem?_map] at hi
   obtain ⟨y,hy,rfl⟩:=Option.map_eq_some_iff.1 hi
   have hq:=h.old i y ia hy
   rw [woken_quitsD hq,Deaf_other t (Ne.symm ia) _ ofEv_g]
   exact hq
 · have hi:gs.size ≤ i:=by simpa using hi
   rw [Deaf_other t (g':=0) (by have:=h.lt; omega) _ ofEv_g]
   exact h.above i hi
 · rcases hx with hx | hx
   · rcases hnew x hx with h1 | h1
     · exact h.low x (.inl h1)
     · exact Nat.le_trans h.kept.1 h1
   · exact h.low x (.inr hx)
 · rcases hnew x hx with h1 | h1
   · obtain ⟨g1,g2,g3⟩:=h.da x h1
     exact ⟨g1,g2,hd.lt x hx⟩
   · exact ⟨fun y => by have:=(h.dr x y).2; omega,by omega,hd.lt x hx⟩
 · obtain ⟨g1,g2⟩:=h.dr x hx
   exact ⟨g1,by omega⟩
 · rw [Deaf_own,deafBehind_still (fun e x => ⟨(hEv e x).2.1,(hEv e x).2.2.1⟩)]
   exact h.hears
 · exact seen_app (fun op hop => MemAct.low_mono hsz (h.seen op hop)) fun op hop => by obtain ⟨e,x,rfl⟩:=Go.Conc.mem_ofEvents hop; exact (hEv e x).2.2.2
 · obtain ⟨k1,k2,k3,k4,k5⟩:=h.kept
   refine ⟨by omega,fun x hx => ?_,hd.tape.trans k3,hd.os.1.trans k4,hd.os.2.trans k5⟩
   rw [hkept x (by omega) fun y => by have:=h.low x (.inl y); omega]
   exact k2 x hx
theorem Shut.slip (h:Shut P c p B0 w0 gs w t q La R) {ga g:Goroutine} (ha:gs[0]?=some ga) (sa:ga.status=.running) {i:Nat} (hi:gs[i]?=some g) (hg:g.status=.running) (ia:i ≠ 0) (d:Nat) (sl:Option (Nat × Nat)) :
   ∃ gs' ops q',runT P (crowd gs (w.at d) sl) i=(.next (crowd gs' (w.at d) sl),ops) ∧ gs'.size=gs.size ∧ gs'[0]?=some ga ∧ Shut P c p B0 w0 gs' (w.at d) (t ++ ops) q' La R ∧ sumTo gs.size q' < sumTo gs.size q:=by
 have hq:=h.old i g ia hi
 have hlt:i < gs.size:=(Array.getElem?_eq_some_iff.1 hi).1
 have hz:(i == 0)=false:=by simp; omega
 cases hqi:q i with
 | zero => rw [hqi] at hq; rw [hq.1] at hg; cases hg
 | succ k =>
   rw [hqi] at hq
   rcases hq with ⟨hf,_⟩ | ⟨_,g',es,hm,hstp,hq'⟩
   · rw [hf] at hg; cases hg
   have hrun:=runT_crowd_go (P:=P) (sl:=sl) (i:=i) hi (by rw [hz]; exact hstp (w.at d))
   have hop:∀ op ∈ MemOp.ofEvents i g.frame.fn g.frame.place es,op.act.touch?=none ∧ op.act.low w.heap.size:=fun op hop => by obtain ⟨e,x,rfl⟩:=Go.Conc.mem_ofEvents hop; exact ⟨touch_mute (hm e x),low_mute (hm e x) _⟩
   refine ⟨_,_,upd q i k,hrun,by simp,?_,?_,?_⟩
   · rw [Array.getElem?_setIfInBounds_ne ia,Array.getElem?_map,ha]
     have:woken P g g' (w.at d) ga=ga:=woken_run sa
     simp [this]
   · refine ⟨h.chan,by simp [h.lt],fun j x ja hj => ?_,fun j hj => ?_,h.low,h.da,h.dr,fun said => noRace_append (h.clean said) ofEv_g fun i a _ op x b hb _ => (by rw [(hop op x).1] at hb; cases hb),h.ma.app fun op x => (hop op x).1,shutKnown_app h.known fun op x => .inr (hop op x).1,shutOver_app h.over fun op x => .inr (hop op x).1,closeApp h.close,by rw [Deaf_other t ia _ ofEv_g]; exact h.hears,seen_app h.seen fun op x => (hop op x).2,h.kept⟩
     · by_cases hji:i=j
       · subst hji
         rw [Array.getElem?_setIfInBounds_self_of_lt (by simpa using hlt)] at hj
         obtain rfl:=Option.some.inj hj
         rw [upd_same,Deaf_own]
         exact hq'
       · rw [Array.getElem?_setIfInBounds_ne hji,Array.getElem?_map] at hj
         obtain ⟨y,hy,rfl⟩:=Option.map_eq_some_iff.1 hj
         have hqj:=h.old j y ja hy
         rw [woken_quitsD hqj,upd_ne q k (Ne.symm hji),Deaf_other t hji _ ofEv_g]
         exact hqj
     · have hj:gs.size ≤ j:=by simpa using hj
       rw [Deaf_other t (g':=i) (by omega) _ ofEv_g]
       exact h.above j hj
   · have:=sumTo_upd q k id hlt
     have this:sumTo gs.size (upd q i k) + q i=sumTo gs.size q + k:=this
     omega
theorem Shut.found (h:Shut P c p B0 w0 gs w t q La R) {fn:FuncId} {pos:String} {g':Goroutine} {d:Nat} :
   Leavers P (t ++ #[{ g:=0,fn:=fn,pos:=pos,act:=.recvClosed c }]) (gs.setIfInBounds 0 g') q ∧ Past (fun _ => False) (w.at d).heap.size (t ++ #[{ g:=0,fn:=fn,pos:=pos,act:=.recvClosed c }]):=by
 obtain ⟨x,hx1,hx2,hx3⟩:=h.close
 obtain ⟨s,r,tm,hc⟩:=h.chan
 have hclt:c < w.heap.size:=(Array.getElem?_eq_some_iff.1 hc).1
 have hk:∀ i,Before t i p → Knows (t ++ _) 0 i:=fun i y => close_knows (f1:=fn) (p1:=pos) hx1 hx2 hx3 h.hears y
 have hst:∀ g,Deaf (t ++ #[{ g:=0,fn:=fn,pos:=pos,act:=.recvClosed c }]) g=Deaf t g:=fun g => deaf_still t g _ fun op hop => by
   simp only [List.mem_toArray,List.mem_cons,List.not_mem_nil,or_false] at hop
   subst hop; exact ⟨by simp,by simp⟩
 generalize hu:(#[{ g:=0,fn:=fn,pos:=pos,act:=.recvClosed c }]:Trace)=u at hk hst ⊢
 have hq:∀ op ∈ u,op.g=0 ∧ op.act.touch?=none ∧ op.act.low w.heap.size:=by
   intro op hop
   rw [← hu] at hop
   simp only [List.mem_toArray,List.mem_cons,List.not_mem_nil,or_false] at hop
   subst hop
   exact ⟨rfl,rfl,hclt⟩
 refine ⟨⟨fun i g hi hg => ?_,fun i hi => ?_⟩,fun said => noRace_append (h.clean said) (fun op y => (hq op y).1) fun i a _ op y b hb _ => (by rw [(hq op y).2.1] at hb; cases hb),fun i x hx hm => ?_,?_,(hst 0).trans h.hears,seen_app h.seen fun op y => (hq op y).2.2⟩
 · rw [Array.getElem?_setIfInBounds_ne (by omega)] at hg
   rw [hst]
   exact h.old i g (by omega) hg
 · rw [hst]
   exact h.above i (by simpa using hi)
 · rcases touch_new hx with h1 | ⟨op,h1,_,h3⟩
   · rcases h.known i x h1 hm with h2 | h2
     · exact .inl (h2.app u)
     · exact .inl (hk i h2)
   · rw [(hq op h1).2.1] at h3; cases h3
 · intro i g hg hne hcn
   obtain ⟨y,hy,hy2⟩:=hcn
   obtain ⟨op,hop,hox⟩:=touch_of hy
   rcases getElem?_append_cases hop with ⟨hi,hop'⟩ | ⟨_,hou⟩
   · have hg':t.g? i=some g:=by simpa [Trace.g?,getElem?_append_old hi] using hg
     rcases h.over i g hg' hne ((counts_old hi).1 ⟨y,hy,hy2⟩) with ⟨k,hk1,hk2⟩ | h2
     · have hkl:k < t.size:=by
         unfold Trace.g? at hk1
         obtain ⟨z,hz,_⟩:=Option.map_eq_some_iff.1 hk1
         exact lt_size_of_getElem? hz
       exact ⟨k,by simpa [Trace.g?,getElem?_append_old hkl] using hk1,hb_app u hk2⟩
     · obtain ⟨k,z,hz1,hz2,hz3⟩:=hk i h2
       refine ⟨k,by simp [Trace.g?,hz1,hz2],?_⟩
       rcases hz3 with rfl | hz3
       · exfalso
         apply hne
         have:(t ++ u).g? i=some z.g:=by simp [Trace.g?,hz1]
         rw [this] at hg
         rw [← Option.some.inj hg,hz2]
       · exact hz3
   · rw [(hq op hou).2.1] at hox; cases hox
theorem shut_run {base:List Frame} {z:Value} {K:(Nat → Prop) → Frame → List Frame → World → Prop} {fr:Frame} {cs:List Frame} {W:World}
   (hA:Co P true base R (fun L fr cs W => Stops P true base c (.recv z) fr cs ∧ K L fr cs W) La fr cs W):∀ (gs:Array Goroutine) (w:World) (sl:Option (Nat × Nat)) (t:Trace) (q:Nat → Nat) (ga:Goroutine),
   Shut P c p B0 w0 gs w t q La R → gs[0]?=some ga → ga.frame=fr → ga.callers=cs ++ base → ga.status=.running → ga.dying=none → Rely La R W w →
   ∃ gs' w' sl' t' q' La' fr' cs' W',Ran P gs w sl t gs' w' sl' t' ∧ gs'.size=gs.size ∧ gs'[0]?=some (G (fr'.finish (.tuple #[z,.bool false])) (cs' ++ base)) ∧ K La' fr' cs' W' ∧ Rely La' R W' w' ∧ Leavers P t' gs' q' ∧ Past (fun _ => False) w'.heap.size t' ∧
     (∀ x,La' x ∨ x=c → B0 ≤ x) ∧ (∀ x,La' x → ¬ R x ∧ x ≠ c ∧ x < w'.heap.size) ∧ (∀ x,R x → x ≠ c ∧ x < w'.heap.size) ∧ (B0 ≤ w'.heap.size ∧ (∀ x,x < B0 → w'.heap[x]?=w0.heap[x]?) ∧ w'.tape=w0.tape ∧ w'.os=w0.os ∧ w'.output=w0.output):=by
 induction hA with
 | @stop La fr cs W hp =>
   intro gs w sl t q
   generalize hM:sumTo gs.size q=M
   induction M using Nat.strongRecOn generalizing gs w sl t q with
   | _ M ihM =>
     intro ga h ha e1 e2 e3 e4 hr
     obtain ⟨i,g,d,sl',hi,hg,hst⟩:=crowd_pick (P:=P) (w:=w) (sl:=sl) (h.awake ha e3) ⟨0,_,ha,e3⟩
     by_cases ia:i=0
     · subst ia
       rw [ha] at hi
       obtain rfl:=Option.some.inj hi
       have hstep:stepG P (0 == 0) ga (w.at d)=.comm (G fr (cs ++ base)) #[rcase c z] true (.recv true) (w.at d) #[]:=by
         rw [stepG_same (h:=G fr (cs ++ base)) e1 e2 e4]
         exact hp.1 (w.at d)
       obtain ⟨s,r,tm,hc⟩:=h.chan
       have hrun:=crowd_recv_closed (P:=P) (sl:=sl') ha hstep hc (partners_nil fun j x hj => by
         rcases getElem?_stand gs 0 j x hj with ⟨_,rfl⟩ | ⟨ja,hj⟩
         · exact offersAt_ph c true
         · exact offersAt_of_not_blocked (by rcases (h.old j x ja hj).status with x | x <;> rw [x] <;> simp) c true)
       have hf:=h.found (fn:=fr.fn) (pos:=fr.place) (g':=G (fr.finish (.tuple #[z,.bool false])) (cs ++ base)) (d:=d)
       refine ⟨gs.setIfInBounds 0 (G (fr.finish (.tuple #[z,.bool false])) (cs ++ base)),w.at d,sl',_,q,La,fr,cs,W,.head (hst.trans hrun) ?_,by simp,by simp [h.lt],hp.2,rely_at hr d,hf.1,hf.2,h.low,h.da,h.dr,h.kept⟩
       exact .refl
     obtain ⟨gs1,ops,q1,k1,k2,k3,k4,k5⟩:=h.slip ha e3 hi hg ia d sl'
     obtain ⟨gs',w',sl2,t',q',La',fr',cs',W',m1,m2,m3⟩:=ihM _ (by rw [← hM]; exact k5) gs1 (w.at d) sl' (t ++ ops) q1 (by rw [k2]) ga k4 k3 e1 e2 e3 e4 (rely_at hr d)
     exact ⟨gs',w',sl2,t',q',La',fr',cs',W',m1.head (hst.trans k1),m2.trans k2,m3⟩
 | @go La fr cs W f1 c1 w1 n1 L1 hstep _ ih =>
   intro gs w sl t q
   generalize hM:sumTo gs.size q=M
   induction M using Nat.strongRecOn generalizing gs w sl t q with
   | _ M ihM =>
     intro ga h ha e1 e2 e3 e4 hr
     obtain ⟨i,g,d,sl',hi,hg,hst⟩:=crowd_pick (P:=P) (w:=w) (sl:=sl) (h.awake ha e3) ⟨0,_,ha,e3⟩
     by_cases ia:i=0
     · subst ia
       rw [ha] at hi
       obtain rfl:=Option.some.inj hi
       obtain ⟨g1,g2⟩:=hstep (w.at d) (rely_at hr d)
       have g1':stepG P true ga (w.at d)=_:=(stepG_same (h:=G fr (cs ++ base)) e1 e2 e4 _).trans g1
       obtain ⟨gs1,ops,k1,k2,k3,k4⟩:=h.own ha (sl:=sl') g1' g2
       obtain ⟨gs',w',sl2,t',q',La',fr',cs',W',m1,m2,m3⟩:=ih (w.at d) (rely_at hr d) gs1 _ sl' (t ++ ops) q _ k4 k3 rfl rfl rfl rfl (rely_refl _ _ _)
       exact ⟨gs',w',sl2,t',q',La',fr',cs',W',m1.head (hst.trans k1),m2.trans k2,m3⟩
     obtain ⟨gs1,ops,q1,k1,k2,k3,k4,k5⟩:=h.slip ha e3 hi hg ia d sl'
     obtain ⟨gs',w',sl2,t',q',La',fr',cs',W',m1,m2,m3⟩:=ihM _ (by rw [← hM]; exact k5) gs1 (w.at d) sl' (t ++ ops) q1 (by rw [k2]) ga k4 k3 e1 e2 e3 e4 (rely_at hr d)
     exact ⟨gs',w',sl2,t',q',La',fr',cs',W',m1.head (hst.trans k1),m2.trans k2,m3⟩
end
def Closes (P:Program) (base:List Frame) (c:Nat) (fr:Frame) (cs:List Frame):Prop :=
 mayWake P (G fr (cs ++ base))=true ∧ ∃ g₂ n,(∀ w s r tm,w.heap[c]?=some (.chan 0 #[] false s r tm) → stepG P false (G fr (cs ++ base)) w=.go g₂ (w.shut c s r tm) #[⟨.obj c,false,true⟩,⟨.obj c,true,true⟩]) ∧ QuitsIn P n g₂
section
variable {P:Program} {c b B0:Nat} {w0:World} {gs:Array Goroutine} {w:World} {t:Trace} {q:Nat → Nat} {La Lb R:Nat → Prop}
theorem Sit.closes (h:Sit P c 0 b B0 w0 gs w t q La Lb R) {ga:Goroutine} (ha:gs[0]?=some ga) (sa:ga.status=.running ∨ ∃ g0 z,ga=parked g0 #[rcase c z] (.recv true)) {frb:Frame} {csb baseb:List Frame} (hb:gs[b]?=some (G frb (csb ++ baseb)))
   (hcl:Closes P baseb c frb csb) (d:Nat) (sl:Option (Nat × Nat)) :
   ∃ gs' w' ops q' p ga',runT P (crowd gs (w.at d) sl) b=(.next (crowd gs' w' sl),ops) ∧ gs'.size=gs.size ∧ gs'[0]?=some ga' ∧ ga'.frame=ga.frame ∧ ga'.callers=ga.callers ∧ ga'.status=.running ∧ ga'.dying=ga.dying ∧ Shut P c p B0 w0 gs' w' (t ++ ops) q' La R ∧ Rely La R w w':=by
 obtain ⟨hw,g₂,n,hst,hq⟩:=hcl
 obtain ⟨s,tm,hc⟩:=h.chan
 have hclt:c < w.heap.size:=(Array.getElem?_eq_some_iff.1 hc).1
 have hb0:b ≠ 0:=h.ne.symm
 have hz:(b == 0)=false:=by simp; omega
 have hrun:=runT_crowd_go (P:=P) (sl:=sl) hb (by rw [hz]; exact hst (w.at d) s s tm hc)
 have hwk:∀ o,woken P (G frb (csb ++ baseb)) g₂ ((w.at d).shut c s s tm) o=o.again ((w.at d).shut c s s tm):=by
   intro o; unfold Go.Conc.woken; rcases hq.status with h | h <;> simp [hw,h]
 have hc2:((w.at d).shut c s s tm).heap[c]?=some (.chan 0 #[] true s s tm):=heap_put (w:=w.at d) hc
 have hsz:((w.at d).shut c s s tm).heap.size=w.heap.size:=by simp [World.shut,World.at]
 have hget:∀ x,x ≠ c → ((w.at d).shut c s s tm).heap[x]?=w.heap[x]?:=fun x hx => by simp [World.shut,World.at,Ne.symm hx]
 obtain ⟨fn,hfn⟩:∃ fn,fn=(G frb (csb ++ baseb)).frame.fn:=⟨_,rfl⟩
 obtain ⟨pos,hpos⟩:∃ pos,pos=(G frb (csb ++ baseb)).frame.place:=⟨_,rfl⟩
 rw [← hfn,← hpos] at hrun
 have hops:MemOp.ofEvents b fn pos #[⟨.obj c,false,true⟩,⟨.obj c,true,true⟩]=#[{ g:=b,fn:=fn,pos:=pos,act:=.access ⟨.obj c,false,true⟩ },{ g:=b,fn:=fn,pos:=pos,act:=.close c }]:=by
   rw [ofEvents_eq]; simp [MemAct.ofEvent]
 rw [hops] at hrun
 have hst2:∀ g,Deaf (t ++ #[{ g:=b,fn:=fn,pos:=pos,act:=.access ⟨.obj c,false,true⟩ },{ g:=b,fn:=fn,pos:=pos,act:=.close c }]) g=Deaf t g:=fun g => deaf_still t g _ fun op hop => by
   simp only [List.mem_toArray,List.mem_cons,List.not_mem_nil,or_false] at hop
   rcases hop with rfl | rfl <;> exact ⟨by simp,by simp⟩
 generalize hu:(#[{ g:=b,fn:=fn,pos:=pos,act:=.access ⟨.obj c,false,true⟩ },{ g:=b,fn:=fn,pos:=pos,act:=.close c }]:Trace)=u at hrun hst2
 have hu1:u[1]?=some { g:=b,fn:=fn,pos:=pos,act:=.close c }:=by rw [← hu]; rfl
 have hus:u.size=2:=by rw [← hu]; rfl
 have hqu:∀ op ∈ u,op.g=b ∧ (op.act.touch?=none ∨ op.act.touch?=some ⟨.obj c,false,.atomic⟩) ∧ op.act.low w.heap.size ∧ op.act ≠ .mark .disable ∧ op.act ≠ .mark .enable:=by
   intro op hop
   rw [← hu] at hop
   simp only [List.mem_toArray,List.mem_cons,List.not_mem_nil,or_false] at hop
   rcases hop with rfl | rfl
   · exact ⟨rfl,.inr rfl,hclt,by simp,by simp⟩
   · exact ⟨rfl,.inl rfl,hclt,by simp,by simp⟩
 have hp:(t ++ u)[t.size + 1]?=some { g:=b,fn:=fn,pos:=pos,act:=.close c }:=by
   rw [Array.getElem?_append_right (by omega)]
   simpa using hu1
 have hkb:∀ i,Knows t b i → Before (t ++ u) i (t.size + 1):=fun i y => .inr (y.hb_new (by omega) hp rfl)
 
 have hnew:∀ i op,(t ++ u)[i]?=some op → op ∈ u → op.act.touch? ≠ none → Before (t ++ u) i (t.size + 1):=by
   intro i op hi hou hne
   have hlt:=lt_size_of_getElem? hi
   rw [Array.size_append,hus] at hlt
   by_cases hi1:i=t.size + 1
   · exact .inl hi1
   · exact .inr (hb_po (by omega) hi hp (hqu op hou).1)
 have hfr:∃ ga',ga.again ((w.at d).shut c s s tm)=ga' ∧ ga'.frame=ga.frame ∧ ga'.callers=ga.callers ∧ ga'.status=.running ∧ ga'.dying=ga.dying:=by
   rcases sa with sa | ⟨g0,z,rfl⟩
   · exact ⟨ga,again_running _ (.inl sa),rfl,rfl,sa,rfl⟩
   · exact ⟨_,again_recv_closed hc2,rfl,rfl,rfl,rfl⟩
 obtain ⟨ga',f1,f2,f3,f4,f5⟩:=hfr
 refine ⟨_,_,u,upd q b n,t.size + 1,ga',hrun,by simp,?_,f2,f3,f4,f5,?_,?_⟩
 · rw [Array.getElem?_setIfInBounds_ne hb0,Array.getElem?_map,ha,Option.map_some,hwk,f1]
 · refine ⟨⟨s,s,tm,hc2⟩,by simp [h.lta],fun i g ia hi => ?_,fun i hi => ?_,fun x hx => h.low x (hx.imp id .inr),fun x hx => ?_,fun x hx => ?_,fun said => ?_,⟨fun i a ha hl => ?_,fun i a ha hl hwr => ?_⟩,fun i x hx hm => ?_,fun i g hg hne hcn => ?_,⟨_,hp,rfl,?_⟩,(hst2 0).trans h.two.ha,?_,?_⟩
   · by_cases ib:b=i
     · subst ib
       rw [Array.getElem?_setIfInBounds_self_of_lt (by simpa using h.ltb)] at hi
       obtain rfl:=Option.some.inj hi
       rw [upd_same,hst2,h.two.hb]
       exact QuitsD.of_quitsIn hq
     · rw [Array.getElem?_setIfInBounds_ne ib,Array.getElem?_map] at hi
       obtain ⟨y,hy,rfl⟩:=Option.map_eq_some_iff.1 hi
       have hqi:=h.old i y ia (Ne.symm ib) hy
       rw [woken_quitsD hqi,hst2,upd_ne q n (Ne.symm ib)]
       exact hqi
   · rw [hst2]
     exact h.above i (by simpa using hi)
   · obtain ⟨g1,g2,g3,g4⟩:=h.da x hx
     exact ⟨g2,g3,by rw [hsz]; exact g4⟩
   · rw [hsz]; exact h.dr x hx
   · refine noRace_append (h.two.clean said) (fun op y => (hqu op y).1) fun i a ha op y x hx hc => ?_
     rcases (hqu op y).2.1 with h1 | h1
     · rw [h1] at hx; cases hx
     · rw [h1] at hx; cases hx
       exact absurd hc.1 (h.aloof i a ha)
   · rcases touch_new ha with h1 | ⟨op,h1,_,h3⟩
     · exact (h.two.ma.own i a h1 hl).app u
     · rcases (hqu op h1).2.1 with h2 | h2
       · rw [h2] at h3; cases h3
       · rw [h2] at h3; cases h3
         exact absurd rfl (h.da c hl).2.2.1
   · rcases touch_new ha with h1 | ⟨op,h1,_,h3⟩
     · exact (h.two.ma.read i a h1 hl hwr).app u
     · rcases (hqu op h1).2.1 with h2 | h2
       · rw [h2] at h3; cases h3
       · rw [h2] at h3; cases h3
         cases hwr
   · rcases touch_new hx with h1 | ⟨op,h1,h2,h3⟩
     · exact (h.two.known i x h1 hm).imp (·.app u) (hkb i)
     · exact .inr (hnew i op h2 h1 (by rw [h3]; simp))
   · obtain ⟨y,hy,hy2⟩:=hcn
     obtain ⟨op,hop,hox⟩:=touch_of hy
     rcases getElem?_append_cases hop with ⟨hi,hop'⟩ | ⟨_,hou⟩
     · have hg':t.g? i=some g:=by simpa [Trace.g?,getElem?_append_old hi] using hg
       by_cases gb:g=b
       · subst gb
         refine .inr (hkb i ?_)
         have:op.g=g:=by
           have:t.g? i=some op.g:=by simp [Trace.g?,hop']
           rw [this] at hg'; exact Option.some.inj hg'
         exact this ▸ knows_own hop'
       · obtain ⟨k,hk1,hk2⟩:=h.two.over i g hg' hne gb ((counts_old hi).1 ⟨y,hy,hy2⟩)
         have hkl:k < t.size:=by
           unfold Trace.g? at hk1
           obtain ⟨z,hz,_⟩:=Option.map_eq_some_iff.1 hk1
           exact lt_size_of_getElem? hz
         exact .inl ⟨k,by simpa [Trace.g?,getElem?_append_old hkl] using hk1,hb_app u hk2⟩
     · exact .inr (hnew i op hop hou (by rw [hox]; simp))
   · exact heard_quiet (t:=t) (fun op y => (hqu op y).2.2.2) hu1 h.two.hb
   · rw [hsz]; exact seen_app h.two.seen fun op y => (hqu op y).2.2.1
   · obtain ⟨k1,k2,k3,k4,k5⟩:=h.kept
     refine ⟨by rw [hsz]; exact k1,fun x hx => ?_,k3,k4,k5⟩
     rw [hget x (by have:=h.low c (.inr (.inr rfl)); omega)]
     exact k2 x hx
 · refine ⟨by rw [hsz]; exact Nat.le_refl _,fun x hx => hget x ?_,rfl,rfl⟩
   rcases hx with hx | hx
   · exact (h.da x hx).2.2.1
   · exact (h.dr x hx).1
theorem finish {base baseb:List Frame} {z:Value} {K:(Nat → Prop) → Frame → List Frame → World → Prop} {fra frb:Frame} {csa csb:List Frame} {Wa Wb:World}
   (hA:Co P true base R (fun L fr cs W => Stops P true base c (.recv z) fr cs ∧ K L fr cs W) La fra csa Wa)
   (hB:Co P false baseb R (fun _ fr cs _ => Closes P baseb c fr cs) Lb frb csb Wb) {sl:Option (Nat × Nat)}
   (h:Sit P c 0 b B0 w0 gs w t q La Lb R) (ha:gs[0]?=some (G fra (csa ++ base))) (hb:gs[b]?=some (G frb (csb ++ baseb))) (hra:Rely La R Wa w) (hrb:Rely Lb R Wb w) :
   ∃ gs' w' sl' t' q' La' fr' cs' W',Ran P gs w sl t gs' w' sl' t' ∧ gs'.size=gs.size ∧ gs'[0]?=some (G (fr'.finish (.tuple #[z,.bool false])) (cs' ++ base)) ∧ K La' fr' cs' W' ∧ Rely La' R W' w' ∧ Leavers P t' gs' q' ∧ Past (fun _ => False) w'.heap.size t' ∧
     (∀ x,La' x ∨ x=c → B0 ≤ x) ∧ (∀ x,La' x → ¬ R x ∧ x ≠ c ∧ x < w'.heap.size) ∧ (∀ x,R x → x ≠ c ∧ x < w'.heap.size) ∧ (B0 ≤ w'.heap.size ∧ (∀ x,x < B0 → w'.heap[x]?=w0.heap[x]?) ∧ w'.tape=w0.tape ∧ w'.os=w0.os ∧ w'.output=w0.output):=by
 have hbz:(b == 0)=false:=by have:=h.ne; simp; omega
 obtain ⟨gs1,w1,sl1,t1,q1,La1,fra1,csa1,Wa1,Lb1,frb1,csb1,Wb1,m1,m2,m3,m4,m5,m6,m7,m8⟩:=run_two (a:=0) (b:=b) hA (hbz ▸ hB) gs w sl t q h ha hb hra hrb
 rcases m8 with ⟨⟨hsa,hka⟩,hB1,d,sl2,hst⟩ | ⟨hcl,hA1,d,sl2,hst⟩
 · obtain ⟨gs2,n1,n2,n3,n4,n5⟩:=m7.wait m3 m4 rfl hsa d sl2
   obtain ⟨gs3,w3,sl3,t3,q3,Lb3,frb3,csb3,Wb3,o1,o2,o3,o4,hcl,o6,o7,o8,d3,sl4,o9⟩:=run_one hB1 gs2 (w1.at d) sl2 t1 q1 _ n5.swap n4 n3 (Dir.still _ _ _) (by simp [parked]) (rely_at m6 d)
   obtain ⟨gs4,w4,ops,q4,p,ga',r1,r2,r3,r4,r5,r6,r7,r8,r9⟩:=o8.swap.closes o4 (.inr ⟨_,z,rfl⟩) o3 hcl d3 sl4
   obtain ⟨gs',w',sl',t',q',La',fr',cs',W',u1,u2,u3⟩:=shut_run (.stop ⟨hsa,hka⟩) gs4 w4 sl4 _ q4 ga' r8 r3 r4 r5 r6 r7 (rely_trans (rely_trans (rely_at m5 d) o7) r9)
   exact ⟨gs',w',sl',t',q',La',fr',cs',W',m1.trans (Ran.head (ops:=#[]) (hst.trans n1) (by rw [Array.append_empty]; exact o1.trans (Ran.head (o9.trans r1) u1))),by rw [u2,r2,o2,n2,m2],u3⟩
 · obtain ⟨gs4,w4,ops,q4,p,ga',r1,r2,r3,r4,r5,r6,r7,r8,r9⟩:=m7.closes m3 (.inl rfl) m4 hcl d sl2
   obtain ⟨gs',w',sl',t',q',La',fr',cs',W',u1,u2,u3⟩:=shut_run hA1 gs4 w4 sl2 _ q4 ga' r8 r3 r4 r5 r6 r7 (rely_trans m5 r9)
   exact ⟨gs',w',sl',t',q',La',fr',cs',W',m1.trans (Ran.head (hst.trans r1) u1),by rw [u2,r2,m2],u3⟩
end
end Go.Proofs.YthhfljldbfgpcaaGreatDoor.Co
end

section
namespace Go.Proofs.YthhfljldbfgpcaaGreatDoor.Co
open Go.Conc Go.Proofs.YthhfljldbfgpcaaGreatDoor.Tl Go.Proofs.YthhfljldbfgpcaaGreatDoor.Lr Go.Proofs.YthhfljldbfgpcaaGreatDoor.Bar
def EndH (b:Frame) (H:List Item → Act → World → Prop) (x:St):Prop:=x.cs=[] ∧ ∃ t a,x.fr=b.at a t ∧ H t a x.V
theorem co_of_hw {X:Cx} {P P':Program} (Hw:Whole X P P') (hT:∀ f,¬ X.T f) {H:List Item → Act → World → Prop} (hH:∀ t a w τ d,H t a w → H t a { w with tape:=τ,drawn:=d }) {m:Bool} {base:List Frame} {b:Frame} {a:Act} {s:List Item}
   {B:Lk} {V W:World} {fr':Frame} (hw:WR X B V W) (hf:FrR X B (b.at a s) fr') (hr:∀ τ d,HW P s H a { V with tape:=τ,drawn:=d }) :
   Co P' m base (Ice X B) (PostR X V.heap.size W.heap.size B (EndH b H)) (Hot X B) fr' [] W:=by
 refine co_of_runs Hw hT (F:=EndH b H) (fun x τ d _ ⟨h1,t,a,h2,h3⟩ => ⟨h1,t,a,h2,hH _ _ _ _ _ h3⟩) (x:=⟨b.at a s,[],V⟩) hw hf .nil rfl fun τ d => ?_
 obtain ⟨t,a',w',h1,n,hn⟩:=hr τ d b [] [wall P]
 rw [List.append_nil,List.append_nil] at hn
 exact ⟨⟨b.at a' t,[],w'⟩,n,⟨rfl,t,a',rfl,h1⟩,hn⟩
end Go.Proofs.YthhfljldbfgpcaaGreatDoor.Co
end

section
namespace Go.Proofs.YthhfljldbfgpcaaGreatDoor.Co
open Go.Conc Go.Proofs.YthhfljldbfgpcaaGreatDoor.Tl Go.Proofs.YthhfljldbfgpcaaGreatDoor.Lr Go.Proofs.YthhfljldbfgpcaaGreatDoor.Bar
section
variable {P:Program} {m:Bool} {base:List Frame} {R:Nat → Prop} {Post Post':(Nat → Prop) → Frame → List Frame → World → Prop} {L:Nat → Prop} {fr fr1:Frame} {cs cs1:List Frame} {W:World}
theorem Co.bind (h:Co P m base R Post L fr cs W) (k:∀ L fr cs W,Post L fr cs W → Co P m base R Post' L fr cs W):Co P m base R Post' L fr cs W:=by
 induction h with
 | stop h => exact k _ _ _ _ h
 | go f1 c1 w1 n1 L1 h _ ih => exact .go f1 c1 w1 n1 L1 h ih
theorem Co.mono (h:Co P m base R Post L fr cs W) (k:∀ L fr cs W,Post L fr cs W → Post' L fr cs W):Co P m base R Post' L fr cs W:=h.bind fun _ _ _ _ x => .stop (k _ _ _ _ x)
theorem Co.rebase {base2:List Frame} (h:Co P m (base2 ++ base) R Post L fr cs W):Co P m base R (fun L fr cs W => ∃ c0,cs=c0 ++ base2 ∧ Post L fr c0 W) L fr (cs ++ base2) W:=by
 induction h with
 | @stop L fr cs W h => exact .stop ⟨cs,rfl,h⟩
 | go f1 c1 w1 n1 L1 h _ ih => exact .go f1 (fun w => c1 w ++ base2) w1 n1 L1 (fun W2 hr => by rw [List.append_assoc,List.append_assoc]; exact h W2 hr) ih
theorem did_refl (hL:∀ b,L b → b < W.heap.size):Did L R W L W #[]:=⟨fun _ h => h,fun _ h => .inl h,hL,Nat.le_refl _,fun _ _ _ => rfl,rfl,⟨rfl,rfl⟩,fun e he => by simp at he⟩
theorem did_read {n:Array Event} (hL:∀ b,L b → b < W.heap.size) (hn:∀ e ∈ n,EvC L R e):Did L R W L W n:=⟨fun _ h => h,fun _ h => .inl h,hL,Nat.le_refl _,fun _ _ _ => rfl,rfl,⟨rfl,rfl⟩,hn⟩
theorem lt_rely {W2:World} (hL:∀ b,L b → b < W.heap.size) (h:Rely L R W W2):∀ b,L b → b < W2.heap.size:=fun b x => Nat.lt_of_lt_of_le (hL b x) h.1
theorem Co.step {L1:World → Nat → Prop} (w1:World → World) (n1:World → Array Event) (h:∀ W2,Rely L R W W2 → stepG P m (G fr (cs ++ base)) W2=.go (G fr1 (cs1 ++ base)) (w1 W2) (n1 W2) ∧ Did L R W2 (L1 W2) (w1 W2) (n1 W2))
   (k:∀ W2,Rely L R W W2 → Co P m base R Post (L1 W2) fr1 cs1 (w1 W2)):Co P m base R Post L fr cs W:=.go (fun _ => fr1) (fun _ => cs1) w1 n1 L1 h k
theorem Co.ctl (hL:∀ b,L b → b < W.heap.size) (h:∀ W2,stepG P m (G fr (cs ++ base)) W2=.go (G fr1 (cs1 ++ base)) W2 #[]) (k:∀ W2,Rely L R W W2 → Co P m base R Post L fr1 cs1 W2):Co P m base R Post L fr cs W :=
 .step (L1:=fun _ => L) id (fun _ => #[]) (fun W2 hr => ⟨h W2,did_refl (lt_rely hL hr)⟩) k
end
theorem frame_at {fr:Frame} (h1:fr.mode=.run) (h2:fr.roundOf=none):fr=fr.at ⟨fr.tmps,fr.defers⟩ fr.todo:=by
 obtain ⟨a,b,c,d,e,f,g⟩:=fr
 dsimp only at h1 h2
 subst h1 h2
 rfl
section
variable {P:Program} {a:Act} {o:Oper} {w:World}
def Yields (P:Program) (a:Act) (o:Oper) (v:Value):Prop:=∀ w,(execOp a.eval o).run P w=.ok (.value v) w ∧ (execOp a.eval o).events P w #[]=#[]
theorem yields_move {x:Operand} (h:o.op=.move x):Yields P a o (a.eval x):=fun w => by
 constructor
 · unfold execOp; simp [h]
 · unfold execOp; simp [h]
theorem yields_assign {x:Operand} (h:o.op=.assign x):Yields P a o (a.eval x):=fun w => by
 constructor
 · unfold execOp; simp [h]
 · unfold execOp; simp [h]
end
section
variable {P:Program} {m:Bool} {base:List Frame} {R:Nat → Prop} {Post:(Nat → Prop) → Frame → List Frame → World → Prop} {L:Nat → Prop} {b:Frame} {a:Act} {cs:List Frame} {W:World} {k:List Item}
theorem Co.val {ops:Array Oper} {i:Nat} {rest:List Nat} {o:Oper} {v:Value} (ho:ops[i]?=some o) (hg:o.guard=none) (hk:b.kind ≠ .early) (hy:Yields P a o v) (hL:∀ b,L b → b < W.heap.size)
   (h:∀ W2,Rely L R W W2 → Co P m base R Post L (b.at (a.put o.dst v) (.inRegion ops rest :: k)) cs W2):Co P m base R Post L (b.at a (.inRegion ops (i :: rest) :: k)) cs W :=
 .ctl hL (fun W2 => by
   rw [stepG_value ho (by simp [Region.wanted,hg]) hk (hy W2).1]
   unfold listed
   rw [(hy W2).2,seen_none]) h
theorem Co.region {id:Nat} {ops:Array Oper} (hL:∀ b,L b → b < W.heap.size) (h:∀ W2,Rely L R W W2 → Co P m base R Post L (b.at a (.inRegion ops (List.range ops.size) :: k)) cs W2):Co P m base R Post L (b.at a (.code (.region id ops false) :: k)) cs W :=
 .ctl hL (fun _ => stepG_region) h
theorem Co.regionEnd {ops:Array Oper} (hL:∀ b,L b → b < W.heap.size) (h:∀ W2,Rely L R W W2 → Co P m base R Post L (b.at a k) cs W2):Co P m base R Post L (b.at a (.inRegion ops [] :: k)) cs W :=
 .ctl hL (fun _ => stepG_region_end) h
end
end Go.Proofs.YthhfljldbfgpcaaGreatDoor.Co
end
