/- Merged texts: DuA. -/
import Derived.Test.YthhfljldbfgpcaaGreatDoorT36
import Derived.Conc.CrowdComm
set_option linter.all false
section
namespace Go.Proofs.YthhfljldbfgpcaaGreatDoor.Co
open Go.Conc
open Go.ConcN (sumTo upd sumTo_upd upd_ne upd_same)
structure Two (t:Trace) (a b:Nat) (La Lb R:Nat → Prop) (B:Nat):Prop where
 clean:∀ said,¬ Race said t
 ma:May t a La R
 mb:May t b Lb R
 known:∀ i x,touchAt t i=some x → x.loc.isMemory=true → Knows t a i ∨ Knows t b i
 over:∀ i g,t.g? i=some g → g ≠ a → g ≠ b → t.counts i → ∃ p,t.g? p=some 0 ∧ HappensBefore t i p
 ha:Deaf t a=0
 hb:Deaf t b=0
 seen:∀ op ∈ t,op.act.low B
theorem over_app {a b:Nat} {t u:Trace} (h:∀ i g,t.g? i=some g → g ≠ a → g ≠ b → t.counts i → ∃ p,t.g? p=some 0 ∧ HappensBefore t i p) (hu:∀ op ∈ u,op.g=a ∨ op.g=b ∨ op.act.touch?=none) :
   ∀ i g,(t ++ u).g? i=some g → g ≠ a → g ≠ b → (t ++ u).counts i → ∃ p,(t ++ u).g? p=some 0 ∧ HappensBefore (t ++ u) i p:=by
 intro i g hg ha hb hc
 obtain ⟨x,hx,_⟩:=hc
 obtain ⟨op,hop,hox⟩:=touch_of hx
 rcases getElem?_append_cases hop with ⟨hi,hop'⟩ | ⟨_,hopu⟩
 · obtain ⟨j,hj,hbf⟩:=h i g (by simpa [Trace.g?,getElem?_append_old hi] using hg) ha hb ((counts_old hi).1 ⟨x,hx,‹_›⟩)
   have hjl:j < t.size:=by
     unfold Trace.g? at hj
     obtain ⟨z,hz,_⟩:=Option.map_eq_some_iff.1 hj
     exact lt_size_of_getElem? hz
   exact ⟨j,by simpa [Trace.g?,getElem?_append_old hjl] using hj,hb_app u hbf⟩
 · rcases hu op hopu with h0 | h0 | h0
   · exact absurd (by simpa [Trace.g?,hop,h0] using hg.symm) ha
   · exact absurd (by simpa [Trace.g?,hop,h0] using hg.symm) hb
   · rw [h0] at hox; cases hox
theorem known_app {a b:Nat} {t u:Trace} (h:∀ i x,touchAt t i=some x → x.loc.isMemory=true → Knows t a i ∨ Knows t b i) (hu:∀ op ∈ u,op.g=a ∨ op.g=b ∨ op.act.touch?=none) :
   ∀ i x,touchAt (t ++ u) i=some x → x.loc.isMemory=true → Knows (t ++ u) a i ∨ Knows (t ++ u) b i:=by
 intro i x hx hm
 rcases touch_new hx with h1 | ⟨op,h1,h2,h3⟩
 · exact (h i x h1 hm).imp (·.app u) (·.app u)
 · rcases hu op h1 with h0 | h0 | h0
   · exact .inl (h0 ▸ knows_own h2)
   · exact .inr (h0 ▸ knows_own h2)
   · rw [h0] at h3; cases h3
section
variable {t:Trace} {a b B B1:Nat} {La La1 Lb R:Nat → Prop} {fn:FuncId} {pos:String} {es:Array Event}
theorem Two.swap (h:Two t a b La Lb R B):Two t b a Lb La R B :=
 ⟨h.clean,h.mb,h.ma,fun i x p q => (h.known i x p q).symm,fun i g p q r s => h.over i g p r q s,h.hb,h.ha,h.seen⟩
theorem ofEv_g {g:Nat}:∀ op ∈ MemOp.ofEvents g fn pos es,op.g=g:=fun op hop => by obtain ⟨e,_,rfl⟩:=Go.Conc.mem_ofEvents hop; rfl
theorem Two.own (h:Two t a b La Lb R B) (hab:a ≠ b) (he:∀ e ∈ es,EvC La1 R e) (hn:∀ x,La1 x → La x ∨ B ≤ x) (hB:B ≤ B1) (hL:∀ x,La1 x → x < B1) (hR:∀ x,R x → x < B)
   (d1:∀ x,La x → ¬ Lb x ∧ ¬ R x) (d2:∀ x,Lb x → x < B ∧ ¬ R x):Two (t ++ MemOp.ofEvents a fn pos es) a b La1 Lb R B1:=by
 have hf:May t a La1 R:=h.ma.fresh h.seen hn
 have hEv:∀ e ∈ es,EvL (fun _ => False) B1 e:=fun e x => evC_evL (he e x) hL fun b hb => Nat.lt_of_lt_of_le (hR b hb) hB
 refine ⟨hf.noRace h.clean he,hf.self,h.mb.other he (fun x hx => ?_) (fun x hx y => (d2 x y).2 hx),known_app h.known fun op hop => .inl (ofEv_g op hop),over_app h.over fun op hop => .inl (ofEv_g op hop),?_,?_,?_⟩
 · rcases hn x hx with h1 | h1
   · exact d1 x h1
   · exact ⟨fun y => absurd (d2 x y).1 (by omega),fun y => absurd (hR x y) (by omega)⟩
 · rw [Deaf_own,deafBehind_still (fun e x => ⟨(hEv e x).2.1,(hEv e x).2.2.1⟩)]
   exact h.ha
 · rw [Deaf_other t hab _ ofEv_g]
   exact h.hb
 · exact seen_app (fun op hop => MemAct.low_mono hB (h.seen op hop)) fun op hop => by obtain ⟨e,x,rfl⟩:=Go.Conc.mem_ofEvents hop; exact (hEv e x).2.2.2
theorem Two.quiet {u:Trace} (h:Two t a b La Lb R B) (hu:∀ op ∈ u,op.act.touch?=none ∧ op.act.low B) (hd:Deaf (t ++ u) a=0 ∧ Deaf (t ++ u) b=0):Two (t ++ u) a b La Lb R B:=by
 refine ⟨fun said => ?_,h.ma.app fun op x => (hu op x).1,h.mb.app fun op x => (hu op x).1,known_app h.known fun op x => .inr (.inr (hu op x).1),over_app h.over fun op x => .inr (.inr (hu op x).1),hd.1,hd.2,seen_app h.seen fun op x => (hu op x).2⟩
 have key:∀ (l:List MemOp) (t:Trace),(∀ op ∈ l,op.act.touch?=none) → ¬ Race said t → ¬ Race said (t ++ l.toArray):=by
   intro l
   induction l with
   | nil => intro t _ h; simpa using h
   | cons x l ih =>
     intro t hl h
     have e:t ++ (x :: l).toArray=(t ++ #[x]) ++ l.toArray:=by apply Array.ext'; simp
     rw [e]
     refine ih _ (fun op y => hl op (by simp [y])) (noRace_append (g:=x.g) h (fun op y => by simp at y; rw [y]) fun i a _ op y b hb _ => ?_)
     rw [hl op (by simp at y; simp [y])] at hb
     cases hb
 have:=key u.toList t (fun op x => (hu op (by simpa using x)).1) (h.clean said)
 simpa using this
theorem Two.mute (h:Two t a b La Lb R B) {i:Nat} (hia:i ≠ a) (hib:i ≠ b) (hm:∀ e ∈ es,e.mute=true):Two (t ++ MemOp.ofEvents i fn pos es) a b La Lb R B :=
 h.quiet (fun op hop => by obtain ⟨e,x,rfl⟩:=Go.Conc.mem_ofEvents hop; exact ⟨touch_mute (hm e x),low_mute (hm e x) B⟩) ⟨by rw [Deaf_other t hia _ ofEv_g]; exact h.ha,by rw [Deaf_other t hib _ ofEv_g]; exact h.hb⟩
theorem Two.pass {R':Nat → Prop} (h:Two t a b La Lb R B) {c k cap:Nat} {f1 f2 f3 f4:FuncId} {p1 p2 p3 p4:String} (hc:c < B) (hR:∀ x,R' x → Lb x) :
   Two (t ++ #[{ g:=b,fn:=f1,pos:=p1,act:=.send c k },{ g:=a,fn:=f2,pos:=p2,act:=.recv c k cap },{ g:=b,fn:=f3,pos:=p3,act:=.sendDone c k },{ g:=a,fn:=f4,pos:=p4,act:=.recvDone c k }]) a b La (fun x => Lb x ∧ ¬ R' x) (fun x => R x ∨ R' x) B:=by
 have hk:∀ i,Knows t b i → Knows (t ++ _) a i:=fun i x => hand_knows (c:=c) (k:=k) (cap:=cap) (f1:=f1) (f2:=f2) (f3:=f3) (f4:=f4) (p1:=p1) (p2:=p2) (p3:=p3) (p4:=p4) h.hb h.ha x
 generalize hu:(#[{ g:=b,fn:=f1,pos:=p1,act:=.send c k },{ g:=a,fn:=f2,pos:=p2,act:=.recv c k cap },{ g:=b,fn:=f3,pos:=p3,act:=.sendDone c k },{ g:=a,fn:=f4,pos:=p4,act:=.recvDone c k }]:Trace)=u at hk ⊢
 have hq:∀ op ∈ u,(op.act ≠ .mark .disable ∧ op.act ≠ .mark .enable) ∧ op.act.touch?=none ∧ op.act.low B:=by
   intro op hop
   rw [← hu] at hop
   simp only [List.mem_toArray,List.mem_cons,List.not_mem_nil,or_false] at hop
   rcases hop with rfl | rfl | rfl | rfl <;> exact ⟨⟨by simp,by simp⟩,rfl,hc⟩
 have h2:=h.quiet (u:=u) (fun op x => (hq op x).2) ⟨by rw [deaf_still t a u fun op x => (hq op x).1]; exact h.ha,by rw [deaf_still t b u fun op x => (hq op x).1]; exact h.hb⟩
 have old:∀ {i x},touchAt (t ++ u) i=some x → touchAt t i=some x:=by
   intro i x hx
   rcases touch_new hx with h1 | ⟨op,h1,_,h3⟩
   · exact h1
   · rw [(hq op h1).2.1] at h3; cases h3
 refine ⟨h2.clean,⟨h2.ma.own,fun i x hx hl hw => ?_⟩,⟨fun i x hx hl => h2.mb.own i x hx (inB_mono (fun y z => z.1) hl),fun i x hx hl hw => ?_⟩,h2.known,h2.over,h2.ha,h2.hb,h2.seen⟩
 · obtain ⟨loc,wr,kd⟩:=x
   have:inB R loc ∨ inB R' loc:=by
     cases loc <;> first | exact hl | exact hl.elim
   rcases this with h1 | h1
   · exact h2.ma.read i _ hx h1 hw
   · exact hk i (h.mb.own i _ (old hx) (inB_mono hR h1))
 · obtain ⟨loc,wr,kd⟩:=x
   have:inB R loc ∨ inB R' loc:=by
     cases loc <;> first | exact hl | exact hl.elim
   rcases this with h1 | h1
   · exact h2.mb.read i _ hx h1 hw
   · exact h2.mb.own i _ hx (inB_mono hR h1)
end
structure Sit (P:Program) (c a b B0:Nat) (w0:World) (gs:Array Goroutine) (w:World) (t:Trace) (q:Nat → Nat) (La Lb R:Nat → Prop):Prop where
 chan:∃ s tm,w.heap[c]?=some (.chan 0 #[] false s s tm)
 ne:a ≠ b
 lta:a < gs.size
 ltb:b < gs.size
 zero:a=0 ∨ b=0
 old:∀ i g,i ≠ a → i ≠ b → gs[i]?=some g → QuitsD P (q i) (Deaf t i) g
 above:∀ i,gs.size ≤ i → Deaf t i=0
 low:∀ x,La x ∨ Lb x ∨ x=c → B0 ≤ x
 da:∀ x,La x → ¬ Lb x ∧ ¬ R x ∧ x ≠ c ∧ x < w.heap.size
 db:∀ x,Lb x → ¬ La x ∧ ¬ R x ∧ x ≠ c ∧ x < w.heap.size
 dr:∀ x,R x → x ≠ c ∧ x < w.heap.size
 two:Two t a b La Lb R w.heap.size
 aloof:∀ i x,touchAt t i=some x → x.loc ≠ .obj c
 kept:B0 ≤ w.heap.size ∧ (∀ x,x < B0 → w.heap[x]?=w0.heap[x]?) ∧ w.tape=w0.tape ∧ w.os=w0.os ∧ w.output=w0.output
theorem nobody_app {c:Nat} {t u:Trace} (h:∀ i x,touchAt t i=some x → x.loc ≠ .obj c) (hu:∀ op ∈ u,∀ x,op.act.touch?=some x → x.loc ≠ .obj c):∀ i x,touchAt (t ++ u) i=some x → x.loc ≠ .obj c:=by
 intro i x hx
 rcases touch_new hx with h1 | ⟨op,h1,_,h3⟩
 · exact h i x h1
 · exact hu op h1 x h3
theorem nobody_ev {c g:Nat} {fn:FuncId} {pos:String} {es:Array Event} {L R:Nat → Prop} (he:∀ e ∈ es,EvC L R e) (hL:¬ L c) (hR:¬ R c):∀ op ∈ MemOp.ofEvents g fn pos es,∀ x,op.act.touch?=some x → x.loc ≠ .obj c:=by
 intro op hop x hx e
 obtain ⟨ev,hev,rfl⟩:=Go.Conc.mem_ofEvents hop
 rcases evC_touch (he ev hev) hx with h | ⟨h,_⟩
 · rw [e] at h; exact hL h
 · rw [e] at h; exact hR h
def Still (c:Nat) (g:Goroutine):Prop:=g.status=.running ∨ ∃ g0 k sh,g=parked g0 #[k] sh ∧ k.chan=.chan (some c)
theorem Still.woken {P:Program} {c s r:Nat} {tm:Bool} {g g1 g2:Goroutine} {w:World} (h:Still c g) (hc:w.heap[c]?=some (.chan 0 #[] false s r tm)):woken P g1 g2 w g=g:=by
 unfold Go.Conc.woken
 split
 · rcases h with h | ⟨g0,k,sh,rfl,hk⟩
   · exact again_running _ (.inl h)
   · exact again_parked_open hk hc
 · rfl
theorem Still.awake {c:Nat} {g:Goroutine} (h:Still c g):awake g:=by
 rcases h with h | ⟨g0,k,sh,rfl,_⟩
 · exact awake_of (.inl h)
 · exact awake_of (.inr (.inl rfl))
inductive Dir
 | recv (z:Value)
 | send (v z:Value)
def Dir.kase (c:Nat):Dir → CommCase
 | .recv z => rcase c z
 | .send v z => scase c v z
def Dir.shape:Dir → CommShape
 | .recv _ => .recv true
 | .send _ _ => .send
def Stops (P:Program) (m:Bool) (base:List Frame) (c:Nat) (dir:Dir) (fr:Frame) (cs:List Frame):Prop :=
 ∀ w,stepG P m (G fr (cs ++ base)) w=.comm (G fr (cs ++ base)) #[dir.kase c] true dir.shape w #[]
theorem Dir.still (c:Nat) (dir:Dir) (g:Goroutine):Still c (parked g #[dir.kase c] dir.shape):=.inr ⟨g,_,_,rfl,by cases dir <;> rfl⟩
section
variable {P:Program} {c a b B0:Nat} {w0:World} {gs:Array Goroutine} {w:World} {t:Trace} {q:Nat → Nat} {La Lb R:Nat → Prop}
theorem Sit.swap (h:Sit P c a b B0 w0 gs w t q La Lb R):Sit P c b a B0 w0 gs w t q Lb La R :=
 ⟨h.chan,h.ne.symm,h.ltb,h.lta,h.zero.symm,fun i g x y => h.old i g y x,h.above,fun x hx => h.low x (by rcases hx with hx | hx | hx <;> simp [hx]),h.db,h.da,h.dr,h.two.swap,h.aloof,h.kept⟩
theorem Sit.at (h:Sit P c a b B0 w0 gs w t q La Lb R) (d:Nat):Sit P c a b B0 w0 gs (w.at d) t q La Lb R:=⟨h.chan,h.ne,h.lta,h.ltb,h.zero,h.old,h.above,h.low,h.da,h.db,h.dr,h.two,h.aloof,h.kept⟩
theorem Sit.awake (h:Sit P c a b B0 w0 gs w t q La Lb R) {ga gb:Goroutine} (ha:gs[a]?=some ga) (hb:gs[b]?=some gb) (sa:Still c ga) (sb:Still c gb):∀ g ∈ gs,awake g:=by
 intro g hg
 obtain ⟨i,hi⟩:=Array.mem_iff_getElem?.1 hg
 by_cases ia:i=a
 · subst ia; rw [ha] at hi; cases hi; exact sa.awake
 by_cases ib:i=b
 · subst ib; rw [hb] at hi; cases hi; exact sb.awake
 exact awake_of ((h.old i g ia ib hi).status.elim .inl fun x => .inr (.inr x))
theorem Sit.own (h:Sit P c a b B0 w0 gs w t q La Lb R) {ga gb g':Goroutine} (ha:gs[a]?=some ga) (hb:gs[b]?=some gb) (sb:Still c gb) {d:Nat} {sl:Option (Nat × Nat)} {w':World} {n:Array Event} {La1:Nat → Prop}
   (hst:stepG P (a == 0) ga (w.at d)=.go g' w' n) (hd:Did La R (w.at d) La1 w' n) :
   ∃ gs' ops,runT P (crowd gs (w.at d) sl) a=(.next (crowd gs' w' sl),ops) ∧ gs'.size=gs.size ∧ gs'[a]?=some g' ∧ gs'[b]?=some gb ∧ Sit P c a b B0 w0 gs' w' (t ++ ops) q La1 Lb R ∧ Rely Lb R w w':=by
 have hrun:=runT_crowd_go (P:=P) (sl:=sl) ha hst
 have hnew:∀ x,La1 x → La x ∨ w.heap.size ≤ x:=hd.new
 have hsz:w.heap.size ≤ w'.heap.size:=hd.size
 have hkept:∀ x,x < w.heap.size → ¬ La x → w'.heap[x]?=w.heap[x]?:=hd.kept
 obtain ⟨s,tm,hc⟩:=h.chan
 have hclt:c < w.heap.size:=(Array.getElem?_eq_some_iff.1 hc).1
 have hc':w'.heap[c]?=some (.chan 0 #[] false s s tm):=by rw [hkept c hclt fun x => (h.da c x).2.2.1 rfl]; exact hc
 have hne:=h.ne
 refine ⟨_,_,hrun,by simp,?_,?_,?_,?_⟩
 · simp [h.lta]
 · rw [Array.getElem?_setIfInBounds_ne hne,Array.getElem?_map,hb]
   simp [sb.woken hc']
 · refine ⟨⟨s,tm,hc'⟩,hne,by simp [h.lta],by simp [h.ltb],h.zero,fun i g ia ib hi => ?_,fun i hi => ?_,fun x hx => ?_,fun x hx => ?_,fun x hx => ?_,fun x hx => ?_,?_,nobody_app h.aloof (nobody_ev hd.evs (fun x => ?_) fun x => (h.dr c x).1 rfl),?_⟩
   · rw [Array.getElem?_setIfInBounds_ne (Ne.symm ia),Array.getElem?_map] at hi
     obtain ⟨y,hy,rfl⟩:=Option.map_eq_some_iff.1 hi
     have hq:=h.old i y ia ib hy
     rw [woken_quitsD hq,Deaf_other t (Ne.symm ia) _ ofEv_g]
     exact hq
   · have hi:gs.size ≤ i:=by simpa using hi
     rw [Deaf_other t (g':=a) (by have:=h.lta; omega) _ ofEv_g]
     exact h.above i hi
   · rcases hx with hx | hx | hx
     · rcases hnew x hx with h1 | h1
       · exact h.low x (.inl h1)
       · exact Nat.le_trans h.kept.1 h1
     · exact h.low x (.inr (.inl hx))
     · exact h.low x (.inr (.inr hx))
   · rcases hnew x hx with h1 | h1
     · obtain ⟨g1,g2,g3,g4⟩:=h.da x h1
       exact ⟨g1,g2,g3,hd.lt x hx⟩
     · exact ⟨fun y => by have:=(h.db x y).2.2.2; omega,fun y => by have:=(h.dr x y).2; omega,by omega,hd.lt x hx⟩
   · obtain ⟨g1,g2,g3,g4⟩:=h.db x hx
     exact ⟨fun y => by rcases hnew x y with h1 | h1; exact g1 h1; omega,g2,g3,by omega⟩
   · obtain ⟨g1,g2⟩:=h.dr x hx
     exact ⟨g1,by omega⟩
   · exact h.two.own hne hd.evs hnew hsz hd.lt (fun x hx => (h.dr x hx).2) (fun x hx => ⟨(h.da x hx).1,(h.da x hx).2.1⟩) fun x hx => ⟨(h.db x hx).2.2.2,(h.db x hx).2.1⟩
   · rcases hnew c x with h1 | h1
     · exact (h.da c h1).2.2.1 rfl
     · omega
   · obtain ⟨k1,k2,k3,k4,k5⟩:=h.kept
     refine ⟨by omega,fun x hx => ?_,hd.tape.trans k3,hd.os.1.trans k4,hd.os.2.trans k5⟩
     rw [hkept x (by omega) fun y => by have:=h.low x (.inl y); omega]
     exact k2 x hx
 · refine ⟨hsz,fun x hx => ?_,hd.os.1,hd.os.2⟩
   rcases hx with hx | hx
   · obtain ⟨g1,g2,g3,g4⟩:=h.db x hx
     exact hkept x g4 g1
   · exact hkept x (h.dr x hx).2 fun y => (h.da x y).2.1 hx
theorem Sit.slip (h:Sit P c a b B0 w0 gs w t q La Lb R) {ga gb g:Goroutine} (ha:gs[a]?=some ga) (hb:gs[b]?=some gb) (sa:Still c ga) (sb:Still c gb) {i:Nat} (hi:gs[i]?=some g) (hg:g.status=.running) (ia:i ≠ a) (ib:i ≠ b) (d:Nat) (sl:Option (Nat × Nat)) :
   ∃ gs' ops q',runT P (crowd gs (w.at d) sl) i=(.next (crowd gs' (w.at d) sl),ops) ∧ gs'.size=gs.size ∧ gs'[a]?=some ga ∧ gs'[b]?=some gb ∧ Sit P c a b B0 w0 gs' (w.at d) (t ++ ops) q' La Lb R ∧ sumTo gs.size q' < sumTo gs.size q:=by
 have hq:=h.old i g ia ib hi
 have hlt:i < gs.size:=(Array.getElem?_eq_some_iff.1 hi).1
 obtain ⟨s,tm,hc⟩:=h.chan
 have hz:(i == 0)=false:=by
   have:=h.zero
   simp; omega
 cases hqi:q i with
 | zero => rw [hqi] at hq; rw [hq.1] at hg; cases hg
 | succ k =>
   rw [hqi] at hq
   rcases hq with ⟨hf,_⟩ | ⟨_,g',es,hm,hstp,hq'⟩
   · rw [hf] at hg; cases hg
   have hrun:=runT_crowd_go (P:=P) (sl:=sl) (i:=i) hi (by rw [hz]; exact hstp (w.at d))
   refine ⟨_,_,upd q i k,hrun,by simp,?_,?_,?_,?_⟩
   · rw [Array.getElem?_setIfInBounds_ne ia,Array.getElem?_map,ha]
     simp [sa.woken (w:=w.at d) hc]
   · rw [Array.getElem?_setIfInBounds_ne ib,Array.getElem?_map,hb]
     simp [sb.woken (w:=w.at d) hc]
   · refine ⟨⟨s,tm,hc⟩,h.ne,by simp [h.lta],by simp [h.ltb],h.zero,fun j x ja jb hj => ?_,fun j hj => ?_,h.low,h.da,h.db,h.dr,h.two.mute ia ib hm,nobody_app h.aloof fun op hop x hx => (by obtain ⟨e,he,rfl⟩:=Go.Conc.mem_ofEvents hop; rw [touch_mute (hm e he)] at hx; cases hx),h.kept⟩
     · by_cases hji:i=j
       · subst hji
         rw [Array.getElem?_setIfInBounds_self_of_lt (by simpa using hlt)] at hj
         obtain rfl:=Option.some.inj hj
         rw [upd_same,Deaf_own]
         exact hq'
       · rw [Array.getElem?_setIfInBounds_ne hji,Array.getElem?_map] at hj
         obtain ⟨y,hy,rfl⟩:=Option.map_eq_some_iff.1 hj
         have hqj:=h.old j y ja jb hy
         rw [woken_quitsD hqj,upd_ne q k (Ne.symm hji),Deaf_other t hji _ ofEv_g]
         exact hqj
     · have hj:gs.size ≤ j:=by simpa using hj
       rw [Deaf_other t (g':=i) (by omega) _ ofEv_g]
       exact h.above j hj
   · have:=sumTo_upd q k id hlt
     have this:sumTo gs.size (upd q i k) + q i=sumTo gs.size q + k:=this
     omega
theorem Sit.nobody (h:Sit P c a b B0 w0 gs w t q La Lb R) {gb:Goroutine} (hb:gs[b]?=some gb) (sb:gb.status=.running) (snd:Bool):partners (gs.setIfInBounds a ph) c snd=[]:=by
 refine partners_nil fun j g hj => ?_
 rcases getElem?_stand gs a j g hj with ⟨_,rfl⟩ | ⟨ja,hj⟩
 · exact offersAt_ph c snd
 · by_cases jb:j=b
   · subst jb; rw [hb] at hj; cases hj
     exact offersAt_of_not_blocked (by rw [sb]; simp) c snd
   · exact offersAt_of_not_blocked (by rcases (h.old j g ja jb hj).status with x | x <;> rw [x] <;> simp) c snd
theorem Sit.wait (h:Sit P c a b B0 w0 gs w t q La Lb R) {fr:Frame} {cs base:List Frame} {gb:Goroutine} (ha:gs[a]?=some (G fr (cs ++ base))) (hb:gs[b]?=some gb) (sb:gb.status=.running) {dir:Dir} (hst:Stops P (a == 0) base c dir fr cs) (d:Nat) (sl:Option (Nat × Nat)) :
   ∃ gs',runT P (crowd gs (w.at d) sl) a=(.next (crowd gs' (w.at d) sl),#[]) ∧ gs'.size=gs.size ∧ gs'[a]?=some (parked (G fr (cs ++ base)) #[dir.kase c] dir.shape) ∧ gs'[b]?=some gb ∧ Sit P c a b B0 w0 gs' (w.at d) t q La Lb R:=by
 obtain ⟨s,tm,hc⟩:=h.chan
 have hrun:=crowd_waits (P:=P) (sl:=sl) ha (hst (w.at d)) (fun cc hcc => by
   have hcc:cc=dir.kase c:=by simpa using hcc
   subst hcc
   have hp:=fun snd => h.nobody hb sb snd
   cases dir with
   | recv z => exact ways_recv_none (w₁:=w.at d) hc (hp true)
   | send v z => exact ways_send_none (w₁:=w.at d) hc (by simp) (hp false))
 refine ⟨_,hrun,by simp,by simp [h.lta],by rw [Array.getElem?_setIfInBounds_ne h.ne]; exact hb,?_⟩
 refine ⟨⟨s,tm,hc⟩,h.ne,by simp [h.lta],by simp [h.ltb],h.zero,fun i g ia ib hi => ?_,fun i hi => h.above i (by simpa using hi),h.low,h.da,h.db,h.dr,h.two,h.aloof,h.kept⟩
 rw [Array.getElem?_setIfInBounds_ne (Ne.symm ia)] at hi
 exact h.old i g ia ib hi
theorem Sit.one (h:Sit P c a b B0 w0 gs w t q La Lb R) {g0:Goroutine} {dir:Dir} {snd:Bool} (hb:gs[b]?=some (parked g0 #[dir.kase c] dir.shape)) (hd:offersAt (parked g0 #[dir.kase c] dir.shape) c snd=[0]):partners (gs.setIfInBounds a ph) c snd=[(b,0)]:=by
 rw [partners_one (j:=b) (g:=parked g0 #[dir.kase c] dir.shape) (by rw [Array.getElem?_setIfInBounds_ne h.ne]; exact hb) fun k x kb hx => ?_,hd]
 · rfl
 · rcases getElem?_stand gs a k x hx with ⟨_,rfl⟩ | ⟨ka,hk⟩
   · exact offersAt_ph c snd
   · exact offersAt_of_not_blocked (by rcases (h.old k x ka kb hk).status with x | x <;> rw [x] <;> simp) c snd
theorem Sit.passed (h:Sit P c a b B0 w0 gs w t q La Lb R) {R':Nat → Prop} (hR:∀ x,R' x → Lb x) {s:Nat} {tm:Bool} (hc:w.heap[c]?=some (.chan 0 #[] false s s tm)) {gs':Array Goroutine} (hs:gs'.size=gs.size) (ho:∀ i,i ≠ a → i ≠ b → gs'[i]?=gs[i]?) {f1 f2 f3 f4:FuncId} {p1 p2 p3 p4:String} (d:Nat) :
   Sit P c a b B0 w0 gs' ((w.at d).setChan c 0 #[] false (s + 1) (s + 1) tm) (t ++ #[{ g:=b,fn:=f1,pos:=p1,act:=.send c s },{ g:=a,fn:=f2,pos:=p2,act:=.recv c s 0 },{ g:=b,fn:=f3,pos:=p3,act:=.sendDone c s },{ g:=a,fn:=f4,pos:=p4,act:=.recvDone c s }]) q La (fun x => Lb x ∧ ¬ R' x) (fun x => R x ∨ R' x):=by
 have hclt:c < w.heap.size:=(Array.getElem?_eq_some_iff.1 hc).1
 have hsz:((w.at d).setChan c 0 #[] false (s + 1) (s + 1) tm).heap.size=w.heap.size:=by simp [World.setChan,World.at]
 have hget:∀ x,x ≠ c → ((w.at d).setChan c 0 #[] false (s + 1) (s + 1) tm).heap[x]?=w.heap[x]?:=fun x hx => by simp [World.setChan,World.at,Ne.symm hx]
 have h2:=h.two.pass (c:=c) (k:=s) (cap:=0) (f1:=f1) (f2:=f2) (f3:=f3) (f4:=f4) (p1:=p1) (p2:=p2) (p3:=p3) (p4:=p4) hclt hR
 have hdeaf:∀ i,i ≠ a → i ≠ b → Deaf (t ++ #[{ g:=b,fn:=f1,pos:=p1,act:=.send c s },{ g:=a,fn:=f2,pos:=p2,act:=.recv c s 0 },{ g:=b,fn:=f3,pos:=p3,act:=.sendDone c s },{ g:=a,fn:=f4,pos:=p4,act:=.recvDone c s }]) i=Deaf t i:=fun i _ _ => deaf_still t i _ fun op hop => by
   simp only [List.mem_toArray,List.mem_cons,List.not_mem_nil,or_false] at hop
   rcases hop with rfl | rfl | rfl | rfl <;> exact ⟨by simp,by simp⟩
 refine ⟨⟨s + 1,tm,by simp [World.setChan,World.at,hclt]⟩,h.ne,by rw [hs]; exact h.lta,by rw [hs]; exact h.ltb,h.zero,fun i g ia ib hi => ?_,fun i hi => ?_,fun x hx => ?_,fun x hx => ?_,fun x hx => ?_,fun x hx => ?_,by rw [hsz]; exact h2,nobody_app h.aloof fun op hop x hx => (by
   simp only [List.mem_toArray,List.mem_cons,List.not_mem_nil,or_false] at hop
   rcases hop with rfl | rfl | rfl | rfl <;> cases hx),?_⟩
 · rw [hdeaf i ia ib]
   exact h.old i g ia ib (by rw [← ho i ia ib]; exact hi)
 · rw [hs] at hi
   rw [hdeaf i (by have:=h.lta; omega) (by have:=h.ltb; omega)]
   exact h.above i hi
 · exact h.low x (by rcases hx with hx | hx | hx; exact .inl hx; exact .inr (.inl hx.1); exact .inr (.inr hx))
 · obtain ⟨g1,g2,g3,g4⟩:=h.da x hx
   exact ⟨fun y => g1 y.1,fun y => y.elim g2 fun z => g1 (hR x z),g3,by rw [hsz]; exact g4⟩
 · obtain ⟨g1,g2,g3,g4⟩:=h.db x hx.1
   exact ⟨g1,fun y => y.elim g2 hx.2,g3,by rw [hsz]; exact g4⟩
 · rw [hsz]
   rcases hx with hx | hx
   · exact h.dr x hx
   · exact ⟨(h.db x (hR x hx)).2.2.1,(h.db x (hR x hx)).2.2.2⟩
 · obtain ⟨k1,k2,k3,k4,k5⟩:=h.kept
   refine ⟨by rw [hsz]; exact k1,fun x hx => ?_,k3,k4,k5⟩
   rw [hget x (by have:=h.low c (.inr (.inr rfl)); omega)]
   exact k2 x hx
end
end Go.Proofs.YthhfljldbfgpcaaGreatDoor.Co
end
