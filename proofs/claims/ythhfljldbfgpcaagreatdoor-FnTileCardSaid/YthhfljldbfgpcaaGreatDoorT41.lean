/- Merged texts: SeK, DuD, DuE, MaH. -/
import Derived.Test.YthhfljldbfgpcaaGreatDoorT40
import Derived.Conc.Own3
import Derived.Test.YthhfljldbfgpcaaGreatDoorT39
import Derived.Test.YthhfljldbfgpcaaGreatDoorT36
import Derived.Conc.SmallLaws
import Derived.Conc.Comm2
set_option linter.all false
section
namespace Go.Proofs.YthhfljldbfgpcaaGreatDoor
open Go.RowKit Go.Conc Go.Proofs.YthhfljldbfgpcaaGreatDoor.Co Go.Proofs.YthhfljldbfgpcaaGreatDoor.Ok Go.Proofs.YthhfljldbfgpcaaGreatDoor.Lr Go.Proofs.YthhfljldbfgpcaaGreatDoor.Tl Go.Proofs.YthhfljldbfgpcaaGreatDoor.Bar
noncomputable def bornF (args:Array Value):Frame:={ (default:Frame) with fn:=Tryz.prog.funcs.size,defers:=[⟨.fn (.func 21) #[],args⟩],mode:=.panicking [goexitEntry] }
theorem send_fn:∃ fn,Tryz.prog.funcs[21]?=some fn ∧ (fn.name == "runtime.NumGoroutine")=false ∧ fn.body=some sBody ∧ fn.ntmps=61:=⟨_,Tryz.func21,by kernel_rfl,by kernel_rfl,by kernel_rfl⟩
theorem enter_send (args:Array Value):Frame.enter Tryz.prog 21 args .deferred=bS.at ⟨args ++ Array.replicate (61 - args.size) undef,[]⟩ [.code sBody]:=by
 obtain ⟨fn,hf,_,hb,hn⟩:=send_fn
 rw [enter_atD args hf hb,hn]
 rfl
theorem step_born {args:Array Value} {w:World}:stepG Tryz.prog false (G (bornF args) []) w=.go (G (bS.at ⟨args ++ Array.replicate (61 - args.size) undef,[]⟩ [.code sBody]) [born0]) w #[]:=by
 obtain ⟨fn,hf,h1,hb,hn⟩:=send_fn
 rw [← enter_send]
 have h1:¬ fn.name = "runtime.NumGoroutine" := by simpa using h1
 simp [G,stepG,unwind,callDeferred,bornF,invoke,callFunc,hf,h1,hb,GStep.after,seen_none,born0]
theorem step_defer {ops:Array Oper} {i:Nat} {rest:List Nat} {o:Oper} {b:Frame} {a:Act} {k:List Item} {cs:List Frame} {w:World} {x:Nat} {t:TypeId} {main:Bool} (ho:ops[i]?=some o) (hg:o.guard=none) (hk:b.kind ≠ .early)
   (hop:o.op=.defer { callee:=.builtin .close,args:=#[.tmp x],argTypes:=#[t] }) :
   stepG Tryz.prog main (G (b.at a (.inRegion ops (i :: rest) :: k)) cs) w=.go (G (b.at (Act.put ⟨a.tmps,⟨.builtin .close #[t] o.type #[false],#[a.eval (.tmp x)]⟩ :: a.defers⟩ o.dst undef) (.inRegion ops rest :: k)) cs) w #[]:=by
 have hw:Region.wanted o (yielded ops a.tmps)=true:=by simp [Region.wanted,hg]
 have hr:(execOp a.eval o).run Tryz.prog w=.ok (.defer ⟨.builtin .close #[t] o.type #[false],#[a.eval (.tmp x)]⟩) w:=by
   unfold execOp
   simp [hop,resolve]
 have he:(execOp a.eval o).events Tryz.prog w #[]=#[]:=by
   unfold execOp
   simp [hop,resolve]
 have hfin:(b.at ⟨a.tmps,⟨.builtin .close #[t] o.type #[false],#[a.eval (.tmp x)]⟩ :: a.defers⟩ (.inRegion ops (i :: rest) :: k)).finish undef=b.at (Act.put ⟨a.tmps,⟨.builtin .close #[t] o.type #[false],#[a.eval (.tmp x)]⟩ :: a.defers⟩ o.dst undef) (.inRegion ops rest :: k):=by rw [Frame.finish_at,ho]; rfl
 have hk':(b.kind == CallKind.early)=false:=by simpa using hk
 rw [stepG_oper ho hw,← hfin]
 simp [stepG.apply,hr,he,G,Frame.at,hk',GStep.after,seen_none]
theorem pois_wr {c:Nat} {W:World} (hc:c < W.heap.size) (hN:Vp.prog.globals.size ≤ W.heap.size):WR (Xs c fun _ => False) (fun x y => x=c ∧ y=c) { W with heap:=W.heap.setIfInBounds c (.cells #[] 0 (0,0)) } W :=
 { tape:=rfl,drawn:=rfl,os:=rfl,output:=rfl
   fn:=fun b b₁ b₂ h1 h2 => h1.2.trans h2.2.symm
   inj:=fun b₁ b₂ b' h1 h2 => h1.1.trans h2.1.symm
   glob:=fun g hg => by cases hg
   live:=fun b b' h hd _ => absurd h.1 hd
   froz:=fun b b' h hd _ => absurd h.1 hd
   dead:=fun b b' h _ => by obtain ⟨rfl,rfl⟩:=h; exact ⟨⟨0,by simp [hc]⟩,hc⟩
   dlt:=fun b hb => by obtain rfl:b=c:=hb; simpa using hc
   flt:=fun b hb => hb.elim
   low:=fun b b' h => by obtain ⟨rfl,rfl⟩:=h; exact .rfl
   nV:=by rw [Array.size_setIfInBounds]; exact hN
   nW:=hN }
theorem hot_none {c:Nat} {F:Nat → Prop}:Hot (Xs c F) (fun x y => x=c ∧ y=c)=fun _ => False:=by
 funext x
 apply propext
 exact ⟨fun ⟨b,h1,h2,_⟩ => h2 h1.1,fun h => h.elim⟩
theorem ice_none {c:Nat} {B:Lk}:Ice (Xs c fun _ => False) B=fun _ => False:=by
 funext x
 apply propext
 exact ⟨fun ⟨b,_,_,h⟩ => h,fun h => h.elim⟩
noncomputable def sArgs (c cx cy d n:Nat) (most:Int):Array Value:=#[.chan (some c),.complex .f32 cx cy,.int .i64 d,.int .i64 n,.int .i64 most]
theorem sendS_co {c n:Nat} {st:Nat → Nat → Int} {sm:Nat → Nat → Nat} {k:Nat}:∃ Post:(Nat → Prop) → (Nat → Prop) → Frame → List Frame → World → Prop,∀ L R fr cs W,SendS c n st sm k L R fr cs W=Co Tryz.prog false [] R (Post R) L fr cs W:=by
 cases k with
 | zero => exact ⟨_,fun _ _ _ _ _ => rfl⟩
 | succ k => exact ⟨fun R => _,fun _ _ _ _ _ => rfl⟩
theorem cutS_any (D F:Nat → Prop) (s:Code) (hs:bodyOf Tryz.prog 21=s):CdR (cx Vp.prog phs [] (Cuts Tryz.prog) D F) (cut [0,13] s) s:=by
 have h:=cutS_ok
 rw [hs] at h
 exact cut_cx [0,13] 21 (by simp [cuts]) s hs h
theorem cutS_is (c:Nat):∃ e,sBody=.seq (.region 0 ops0 false) e ∧ CdR (Xs c fun _ => False) (.seq sR1 (.block 0 (.loop sX))) e:=by
 obtain ⟨s,hs⟩:∃ s,sBody=s:=⟨_,rfl⟩
 have hb:=sBody_is.trans hs
 have hc:=cut_sBody
 rw [hs] at hc ⊢
 clear hs
 have hcd:=cutS_any (fun b => b=c) (fun _ => False) s hb
 rw [hc] at hcd
 obtain ⟨d0,e',ec,hd0,hd1⟩:=hcd
 obtain rfl:=cuts0 (hd0.resolve_left (by decide))
 exact ⟨e',ec,hd1⟩
theorem app_get {p:Array Value} {i:Nat} {v:Value} (h:p[i]?=some v) (q:Array Value):(p ++ q)[i]?=some v:=by
 rw [Array.getElem?_append_left (Array.getElem?_eq_some_iff.1 h).1]
 exact h
theorem send_born {cx cy d n:Nat} {most:Int} {px py:Nat → Nat → Nat} {bx:Nat → Nat → Value} {st:Nat → Nat → Int} {sm:Nat → Nat → Nat} {c:Nat} (C:CellOK cx cy d n most px py bx st sm) (hn:n ≤ 8) (h0:0 < n) {W:World} (hc:c < W.heap.size) (hN:Vp.prog.globals.size ≤ W.heap.size) :
   SendS c n st sm n (fun _ => False) (fun _ => False) (bornF (sArgs c cx cy d n most)) [] W:=by
 obtain ⟨Post,hP⟩:=sendS_co (c:=c) (n:=n) (st:=st) (sm:=sm) (k:=n)
 rw [hP]
 have hno:∀ b,(fun _:Nat => False) b → b < W.heap.size:=fun b h => h.elim
 refine Co.ctl (fr1:=bS.at ⟨sArgs c cx cy d n most ++ Array.replicate (61 - (sArgs c cx cy d n most).size) undef,[]⟩ [.code sBody]) (cs1:=[born0]) (fun b h => h.elim) (fun _ => step_born) fun W1 hr1 => ?_
 have hc1:c < W1.heap.size:=Nat.lt_of_lt_of_le hc hr1.1
 have hN1:Vp.prog.globals.size ≤ W1.heap.size:=Nat.le_trans hN hr1.1
 generalize hT:sArgs c cx cy d n most ++ Array.replicate (61 - (sArgs c cx cy d n most).size) undef=T
 have hTs:T.size=61:=by rw [← hT]; simp [sArgs]
 have hT0:T[0]?=some (.chan (some c)):=by rw [← hT]; exact app_get rfl _
 have hT1:T[1]?=some (.complex .f32 cx cy):=by rw [← hT]; exact app_get rfl _
 have hT2:T[2]?=some (.int .i64 d):=by rw [← hT]; exact app_get rfl _
 have hT3:T[3]?=some (.int .i64 n):=by rw [← hT]; exact app_get rfl _
 have hT4:T[4]?=some (.int .i64 most):=by rw [← hT]; exact app_get rfl _
 have hTR:AR (Xs c fun _ => False) (fun x y => x=c ∧ y=c) T T:=by
   rw [← hT]
   refine AR.append ⟨rfl,fun i v v' h1 h2 => ?_⟩ (AR.replicate _ undefR)
   rw [h1] at h2
   cases h2
   match i with
   | 0 => cases h1; exact .chan ⟨rfl,rfl⟩
   | 1 => cases h1; exact .complex _ _ _
   | 2 => cases h1; exact .int _ _
   | 3 => cases h1; exact .int _ _
   | 4 => cases h1; exact .int _ _
   | i + 5 => cases h1
 
 obtain ⟨e',ec,hd1⟩:=cutS_is c
 rw [ec]
 refine Co.ctl (fun b h => h.elim) (fun _ => stepG_seq) fun W2 hr2 => ?_
 refine Co.region (fun b h => h.elim) fun W3 hr3 => ?_
 rw [size0]
 obtain ⟨o0,ho0,hop0,hdst0,hg0⟩:=op0_0
 obtain ⟨o1,ho1,hop1,hty1,hdst1,hg1⟩:=op0_1
 refine Co.val ho0 hg0 (by simp [bS]) (yields_move hop0) (fun b h => h.elim) fun W4 hr4 => ?_
 have ev0:Act.eval ⟨T,[]⟩ (.tmp 0)=.chan (some c):=by simp [Act.eval,Array.getD_eq_getD_getElem?,hT0]
 rw [ev0,hdst0]
 have ev16:Act.eval (Act.put ⟨T,[]⟩ (some 16) (.chan (some c))) (.tmp 16)=.chan (some c):=by simp [Act.eval,Act.put,Array.getD_eq_getD_getElem?,hTs]
 refine Co.ctl (fun b h => h.elim) (fun _ => step_defer ho1 hg1 (by simp [bS]) hop1) fun W5 hr5 => ?_
 rw [ev16,hdst1,hty1]
 refine Co.regionEnd (fun b h => h.elim) fun W6 hr6 => ?_
 have hc6:c < W6.heap.size:=Nat.lt_of_lt_of_le hc1 (Nat.le_trans hr2.1 (Nat.le_trans hr3.1 (Nat.le_trans hr4.1 (Nat.le_trans hr5.1 hr6.1))))
 have hN6:Vp.prog.globals.size ≤ W6.heap.size:=Nat.le_trans hN1 (Nat.le_trans hr2.1 (Nat.le_trans hr3.1 (Nat.le_trans hr4.1 (Nat.le_trans hr5.1 hr6.1))))
 rw [← hP]
 rw [← List.nil_append [born0]]
 refine send_next C hn n (i:=0) (by omega) h0 ?_
 have:=stretch (cx:=cx) (cy:=cy) (d:=d) (n:=n) (most:=most) (st:=st) (sm:=sm) (i:=0) (pois_wr hc6 hN6) (fr:=bS.at ⟨T.setIfInBounds 16 (.chan (some c)),[closeD c]⟩ [.code e']) (a:=⟨T.setIfInBounds 16 (.chan (some c)),[closeD c]⟩) (s:=[.code (.seq sR1 (.block 0 (.loop sX)))])
   (fr_build (hTR.set 16 (.chan ⟨rfl,rfl⟩)) (.cons (.inl trivial) ⟨.builtin _ _ _ _ rfl,⟨rfl,fun i v v' h1 h2 => ?_⟩⟩ .nil) (.cons (.code hd1) .nil) rfl rfl) ⟨rfl,rfl⟩ rfl fun w => hw_first C hn (by simp [hTs]) ?_ ?_ ?_ ?_ ?_ w
 · rw [hot_none,ice_none] at this
   exact this
 · rw [h1] at h2
   cases h2
   match i with
   | 0 => cases h1; exact .chan ⟨rfl,rfl⟩
   | i + 1 => cases h1
 all_goals refine (Array.getElem?_setIfInBounds_ne (by decide)).trans ?_
 · exact hT0
 · exact hT1
 · exact hT2
 · exact hT3
 · exact hT4
end Go.Proofs.YthhfljldbfgpcaaGreatDoor
end

section
namespace Go.Proofs.YthhfljldbfgpcaaGreatDoor.Co
open Go.Conc Go.Proofs.YthhfljldbfgpcaaGreatDoor.Tl Go.Proofs.YthhfljldbfgpcaaGreatDoor.Lr Go.Proofs.YthhfljldbfgpcaaGreatDoor.Bar
open Go.ConcN (sumTo upd sumTo_upd upd_ne upd_same)
theorem aloof_ev {c g:Nat} {fn:FuncId} {pos:String} {es:Array Event} {L R:Nat → Prop} (he:∀ e ∈ es,EvC L R e) (hL:¬ L c):∀ op ∈ MemOp.ofEvents g fn pos es,∀ x,op.act.touch?=some x → x.loc ≠ .obj c:=by
 intro op hop x hx e
 obtain ⟨ev,hev,rfl⟩:=Go.Conc.mem_ofEvents hop
 have h:=he ev hev
 obtain ⟨loc,wr,sy⟩:=ev
 unfold EvC at h
 cases loc with
 | cell a =>
   have h1:sy=false:=h.1
   subst h1
   cases wr <;> (cases hx; cases e)
 | obj r =>
   have h:L r:=h
   cases wr <;> cases sy <;> first | (cases hx; cases e; exact hL h) | (cases hx; done)
 | mark m =>
   have h:m=.noRoom:=h
   subst h
   cases hx
 | _ => exact h
theorem co_beside2 {P:Program} {base:List Frame} {R:Nat → Prop} {Post:(Nat → Prop) → Frame → List Frame → World → Prop} {L:Nat → Prop} {fr:Frame} {cs:List Frame} {W:World} (h:Co P true base R Post L fr cs W) :
   ∀ (gs:Array Goroutine) (w:World) (sl:Option (Nat × Nat)) (t:Trace) (q:Nat → Nat),gs[0]?=some (G fr (cs ++ base)) → Rely L R W w → (∀ b,R b → b < w.heap.size) → Leavers P t gs q → Past (fun _ => False) w.heap.size t →
     ∃ (N:Nat) (gs':Array Goroutine) (fr':Frame) (cs':List Frame) (w' W':World) (sl':Option (Nat × Nat)) (t':Trace) (q':Nat → Nat) (L':Nat → Prop),
       runNT P N (crowd gs w sl) t=(.next (crowd gs' w' sl'),t') ∧ gs'.size=gs.size ∧ gs'[0]?=some (G fr' (cs' ++ base)) ∧ Post L' fr' cs' W' ∧ Rely L' R W' w' ∧ Leavers P t' gs' q' ∧ Past (fun _ => False) w'.heap.size t' ∧ Left L w L' w' ∧ (W.heap=w.heap → W'.heap=w'.heap) ∧ ∀ c,¬ L' c → (∀ i x,touchAt t i=some x → x.loc ≠ .obj c) → ∀ i x,touchAt t' i=some x → x.loc ≠ .obj c:=by
 induction h with
 | @stop L fr cs W hp =>
   intro gs w sl t q h0 hr _ hL hP
   exact ⟨0,gs,fr,cs,w,W,sl,t,q,L,rfl,rfl,h0,hp,hr,hL,hP,Left.refl _ _,id,fun _ _ h => h⟩
 | @go L fr cs W f1 c1 w1 n1 L1 hstep _ ih =>
   intro gs w sl t q
   generalize hM:sumTo gs.size q=M
   induction M using Nat.strongRecOn generalizing gs w sl t q with
   | _ M ihM =>
     intro h0 hr hR hL hP
     have haw:∀ g ∈ gs,awake g:=by
       intro g hg
       obtain ⟨i,hi,rfl⟩:=Array.mem_iff_getElem.1 hg
       rcases Nat.eq_zero_or_pos i with rfl | hpos
       · have:gs[0]=G fr (cs ++ base):=by simpa [Array.getElem?_eq_getElem hi] using h0
         rw [this]; exact awake_of (.inl rfl)
       · exact awake_of ((hL.old i _ hpos (Array.getElem?_eq_getElem hi)).status.elim .inl fun x => .inr (.inr x))
     obtain ⟨i,g,d,sl',hi,hg,hst⟩:=crowd_pick (P:=P) (w:=w) (sl:=sl) haw ⟨0,_,h0,rfl⟩
     rcases Nat.eq_zero_or_pos i with rfl | hpos
     · 
       obtain rfl:g=G fr (cs ++ base):=by rw [h0] at hi; exact (Option.some.inj hi).symm
       obtain ⟨hgo,hdid⟩:=hstep (w.at d) (rely_at hr d)
       have hrunT:=runT_crowd_go (P:=P) (sl:=sl') (i:=0) hi (show stepG P (0 == 0) (G fr (cs ++ base)) (w.at d)=_ from hgo)
       have hsz:((gs.map (woken P (G fr (cs ++ base)) (G (f1 (w.at d)) (c1 (w.at d) ++ base)) (w1 (w.at d)))).setIfInBounds 0 (G (f1 (w.at d)) (c1 (w.at d) ++ base))).size=gs.size:=by simp
       have hlt:0 < gs.size:=(Array.getElem?_eq_some_iff.1 h0).1
       have hgrow:w.heap.size ≤ (w1 (w.at d)).heap.size:=hdid.size
       obtain ⟨N,gs',fr',cs',w',W',sl'',t',q',L',k1,k2,k3,k4,k5,k6,k7,k8,k9,k10⟩:=ih (w.at d) (rely_at hr d) ((gs.map (woken P (G fr (cs ++ base)) (G (f1 (w.at d)) (c1 (w.at d) ++ base)) (w1 (w.at d)))).setIfInBounds 0 (G (f1 (w.at d)) (c1 (w.at d) ++ base))) (w1 (w.at d)) sl' (t ++ MemOp.ofEvents 0 (G fr (cs ++ base)).frame.fn (G fr (cs ++ base)).frame.place (n1 (w.at d))) q (by simp [hlt]) (rely_refl _ _ _) (fun b hb => Nat.lt_of_lt_of_le (hR b hb) hgrow)
         ⟨fun j x hj hx => by
           have hne:0 ≠ j:=by omega
           rw [Array.getElem?_setIfInBounds_ne hne,Array.getElem?_map] at hx
           obtain ⟨y,hy,rfl⟩:=Option.map_eq_some_iff.1 hx
           have hq:=hL.old j y hj hy
           rw [woken_quitsD hq,Deaf_other t (by omega) _ (fun op hop => by obtain ⟨e,_,rfl⟩:=Go.Conc.mem_ofEvents hop; rfl)]
           exact hq,fun j hj => by
           rw [Deaf_other t (g':=0) (by simp at hj; omega) _ (fun op hop => by obtain ⟨e,_,rfl⟩:=Go.Conc.mem_ofEvents hop; rfl)]
           exact hL.above j (by simpa using hj)⟩
         ((hP.mono hgrow).own fun e he => evC_evL (hdid.evs e he) hdid.lt fun b hb => Nat.lt_of_lt_of_le (hR b hb) hgrow)
       exact ⟨N + 1,gs',fr',cs',w',W',sl'',t',q',L',by simp only [runNT,hst,hrunT]; exact k1,k2.trans hsz,k3,k4,k5,k6,k7,((left_at L w d).trans hdid.left).trans k8,fun _ => k9 rfl,fun c hc ht => k10 c hc (nobody_app ht (aloof_ev (hdid.evs) fun x => hc (k8.old c x)))⟩
     · 
       have hq:=hL.old i g hpos hi
       have hi0:(i == 0)=false:=by simp; omega
       have hlt:i < gs.size:=(Array.getElem?_eq_some_iff.1 hi).1
       cases hqi:q i with
       | zero => rw [hqi] at hq; rw [hq.1] at hg; cases hg
       | succ k =>
         rw [hqi] at hq
         rcases hq with ⟨hf,_⟩ | ⟨_,g',es,hm,hstp,hq'⟩
         · rw [hf] at hg; cases hg
         have hrunT:=runT_crowd_go (P:=P) (sl:=sl') (i:=i) hi (by rw [hi0]; exact hstp (w.at d))
         have hsz:((gs.map (woken P g g' (w.at d))).setIfInBounds i g').size=gs.size:=by simp
         have hsum:sumTo gs.size (upd q i k) + (k + 1)=sumTo gs.size q + k:=by
           have:=sumTo_upd q k id hlt
           simpa [hqi] using this
         obtain ⟨N,gs',fr',cs',w',W',sl'',t',q',L',k1,k2,k3,k4,k5,k6,k7,k8,k9,k10⟩:=ihM (sumTo gs.size (upd q i k)) (by omega) ((gs.map (woken P g g' (w.at d))).setIfInBounds i g') (w.at d) sl' (t ++ MemOp.ofEvents i g.frame.fn g.frame.place es) (upd q i k) (by rw [hsz])
           (by
             have hne:i ≠ 0:=by omega
             rw [Array.getElem?_setIfInBounds_ne hne,Array.getElem?_map,h0]
             have:woken P g g' (w.at d) (G fr (cs ++ base))=G fr (cs ++ base):=woken_run rfl
             simp [this])
           (rely_at hr d) hR
           ⟨fun j x hj hx => by
             by_cases hji:i=j
             · subst hji
               rw [Array.getElem?_setIfInBounds_self_of_lt (by simpa using hlt)] at hx
               obtain rfl:=Option.some.inj hx
               rw [upd_same,Deaf_own]
               exact hq'
             · rw [Array.getElem?_setIfInBounds_ne hji,Array.getElem?_map] at hx
               obtain ⟨y,hy,rfl⟩:=Option.map_eq_some_iff.1 hx
               have hqj:=hL.old j y hj hy
               rw [woken_quitsD hqj,upd_ne q k (Ne.symm hji),Deaf_other t hji _ (fun op hop => by obtain ⟨e,_,rfl⟩:=Go.Conc.mem_ofEvents hop; rfl)]
               exact hqj,fun j hj => by
             rw [Deaf_other t (g':=i) (by simp at hj; omega) _ (fun op hop => by obtain ⟨e,_,rfl⟩:=Go.Conc.mem_ofEvents hop; rfl)]
             exact hL.above j (by simpa using hj)⟩
           (hP.mute (by omega) hm)
         exact ⟨N + 1,gs',fr',cs',w',W',sl'',t',q',L',by simp only [runNT,hst,hrunT]; exact k1,k2.trans hsz,k3,k4,k5,k6,k7,(left_at L w d).trans k8,k9,fun c hc ht => k10 c hc (nobody_app ht fun op hop x hx => by obtain ⟨e,he,rfl⟩:=Go.Conc.mem_ofEvents hop; rw [touch_mute (hm e he)] at hx; cases hx)⟩
theorem picked0 {P:Program} {fr:Frame} {cs:List Frame}:∀ (M:Nat) (gs:Array Goroutine) (w:World) (sl:Option (Nat × Nat)) (t:Trace) (q:Nat → Nat),sumTo gs.size q=M → gs[0]?=some (G fr cs) → Leavers P t gs q → Past (fun _ => False) w.heap.size t →
     ∃ (N:Nat) (gs':Array Goroutine) (d:Nat) (sl':Option (Nat × Nat)) (t':Trace) (q':Nat → Nat),runNT P N (crowd gs w sl) t=(.next (crowd gs' (w.at d) sl'),t') ∧ gs'.size=gs.size ∧ gs'[0]?=some (G fr cs) ∧ Leavers P t' gs' q' ∧ Past (fun _ => False) w.heap.size t' ∧
       (∀ c,(∀ i x,touchAt t i=some x → x.loc ≠ .obj c) → ∀ i x,touchAt t' i=some x → x.loc ≠ .obj c) ∧ ∃ d' sl'',stepT P (crowd gs' (w.at d) sl')=runT P (crowd gs' (w.at d') sl'') 0:=by
 intro M
 induction M using Nat.strongRecOn with
 | _ M ihM =>
   intro gs w sl t q hM h0 hL hP
   have haw:∀ g ∈ gs,awake g:=by
     intro g hg
     obtain ⟨i,hi,rfl⟩:=Array.mem_iff_getElem.1 hg
     rcases Nat.eq_zero_or_pos i with rfl | hpos
     · have:gs[0]=G fr cs:=by simpa [Array.getElem?_eq_getElem hi] using h0
       rw [this]; exact awake_of (.inl rfl)
     · exact awake_of ((hL.old i _ hpos (Array.getElem?_eq_getElem hi)).status.elim .inl fun x => .inr (.inr x))
   obtain ⟨i,g,d,sl',hi,hg,hst⟩:=crowd_pick (P:=P) (w:=w) (sl:=sl) haw ⟨0,_,h0,rfl⟩
   rcases Nat.eq_zero_or_pos i with rfl | hpos
   · exact ⟨0,gs,w.drawn,sl,t,q,rfl,rfl,h0,hL,hP,fun _ h => h,d,sl',hst⟩
   · have hq:=hL.old i g hpos hi
     have hi0:(i == 0)=false:=by simp; omega
     have hlt:i < gs.size:=(Array.getElem?_eq_some_iff.1 hi).1
     cases hqi:q i with
     | zero => rw [hqi] at hq; rw [hq.1] at hg; cases hg
     | succ k =>
       rw [hqi] at hq
       rcases hq with ⟨hf,_⟩ | ⟨_,g',es,hm,hstp,hq'⟩
       · rw [hf] at hg; cases hg
       have hrunT:=runT_crowd_go (P:=P) (sl:=sl') (i:=i) hi (by rw [hi0]; exact hstp (w.at d))
       have hsz:((gs.map (woken P g g' (w.at d))).setIfInBounds i g').size=gs.size:=by simp
       have hsum:sumTo gs.size (upd q i k) + (k + 1)=sumTo gs.size q + k:=by
         have:=sumTo_upd q k id hlt
         simpa [hqi] using this
       obtain ⟨N,gs',d',sl'',t',q',k1,k2,k3,k4,k5,k6,k7⟩:=ihM (sumTo gs.size (upd q i k)) (by omega) ((gs.map (woken P g g' (w.at d))).setIfInBounds i g') (w.at d) sl' (t ++ MemOp.ofEvents i g.frame.fn g.frame.place es) (upd q i k) (by rw [hsz])
         (by
           have hne:i ≠ 0:=by omega
           rw [Array.getElem?_setIfInBounds_ne hne,Array.getElem?_map,h0]
           have:woken P g g' (w.at d) (G fr cs)=G fr cs:=woken_run rfl
           simp [this])
         ⟨fun j x hj hx => by
           by_cases hji:i=j
           · subst hji
             rw [Array.getElem?_setIfInBounds_self_of_lt (by simpa using hlt)] at hx
             obtain rfl:=Option.some.inj hx
             rw [upd_same,Deaf_own]
             exact hq'
           · rw [Array.getElem?_setIfInBounds_ne hji,Array.getElem?_map] at hx
             obtain ⟨y,hy,rfl⟩:=Option.map_eq_some_iff.1 hx
             have hqj:=hL.old j y hj hy
             rw [woken_quitsD hqj,upd_ne q k (Ne.symm hji),Deaf_other t hji _ (fun op hop => by obtain ⟨e,_,rfl⟩:=Go.Conc.mem_ofEvents hop; rfl)]
             exact hqj,fun j hj => by
           rw [Deaf_other t (g':=i) (by simp at hj; omega) _ (fun op hop => by obtain ⟨e,_,rfl⟩:=Go.Conc.mem_ofEvents hop; rfl)]
           exact hL.above j (by simpa using hj)⟩
         (hP.mute (by omega) hm)
       exact ⟨N + 1,gs',d',sl'',t',q',by simp only [runNT,hst,hrunT]; exact k1,k2.trans hsz,k3,k4,k5,fun c ht => k6 c (nobody_app ht fun op hop x hx => by obtain ⟨e,he,rfl⟩:=Go.Conc.mem_ofEvents hop; rw [touch_mute (hm e he)] at hx; cases hx),k7⟩
end Go.Proofs.YthhfljldbfgpcaaGreatDoor.Co
end

section
namespace Go.Proofs.YthhfljldbfgpcaaGreatDoor.Co
open Go.Conc Go.Proofs.YthhfljldbfgpcaaGreatDoor.Tl Go.Proofs.YthhfljldbfgpcaaGreatDoor.Lr Go.Proofs.YthhfljldbfgpcaaGreatDoor.Bar
theorem inB_mem {S:Nat → Prop} {l:Loc} (h:inB S l):l.isMemory=true:=by
 cases l <;> first | rfl | exact h.elim
theorem sit_spawn {P:Program} {c B0:Nat} {w0 w:World} {gs:Array Goroutine} {t:Trace} {q:Nat → Nat} {L:Nat → Prop} {sl:Option (Nat × Nat)} {fr:Frame} {cs:List Frame} {g1 child:Goroutine}
   (h0:gs[0]?=some (G fr cs)) (hst:stepG P true (G fr cs) w=.spawn g1 child w #[]) (hL:Leavers P t gs q) (hP:Past (fun _ => False) w.heap.size t) (hc:∃ s tm,w.heap[c]?=some (.chan 0 #[] false s s tm))
   (al:∀ i x,touchAt t i=some x → x.loc ≠ .obj c) (lo:∀ x,L x → B0 ≤ x ∧ x ≠ c ∧ x < w.heap.size) (hcB:B0 ≤ c) (hk:B0 ≤ w.heap.size ∧ (∀ x,x < B0 → w.heap[x]?=w0.heap[x]?) ∧ w.tape=w0.tape ∧ w.os=w0.os ∧ w.output=w0.output) :
   ∃ gs' ops,runT P (crowd gs w sl) 0=(.next (crowd gs' w sl),ops) ∧ gs'.size=gs.size + 1 ∧ gs'[0]?=some g1 ∧ gs'[gs.size]?=some child ∧ Sit P c 0 gs.size B0 w0 gs' w (t ++ ops) q L (fun _ => False) (fun _ => False):=by
 have hrun:=runT_crowd_spawn (P:=P) (sl:=sl) (i:=0) h0 (show stepG P (0 == 0) (G fr cs) w=_ from hst)
 have hlt:0 < gs.size:=(Array.getElem?_eq_some_iff.1 h0).1
 refine ⟨_,_,hrun,by simp,?_,?_,?_⟩
 · rw [Array.getElem?_push,if_neg (by simp; omega)]
   exact Array.getElem?_setIfInBounds_self_of_lt hlt
 · rw [Array.getElem?_push,if_pos (by simp)]
 generalize hu:Array.push (Array.push (MemOp.ofEvents 0 (G fr cs).frame.fn (G fr cs).frame.place #[]) { g:=0,fn:=(G fr cs).frame.fn,pos:=(G fr cs).frame.place,act:=.go gs.size }) { g:=gs.size,fn:=child.frame.fn,pos:=(G fr cs).frame.place,act:=.start }=u
 have hq:∀ op ∈ u,(op.act ≠ .mark .disable ∧ op.act ≠ .mark .enable) ∧ op.act.touch?=none ∧ op.act.low w.heap.size:=by
   intro op hop
   rw [← hu] at hop
   simp [MemOp.ofEvents] at hop
   rcases hop with rfl | rfl
   · exact ⟨⟨by simp,by simp⟩,rfl,trivial⟩
   · exact ⟨⟨by simp,by simp⟩,rfl,trivial⟩
 have ht:∀ op ∈ u,op.act.touch?=none:=fun op h => (hq op h).2.1
 have hd:∀ i,Deaf (t ++ u) i=Deaf t i:=fun i => deaf_still t i u fun op h => (hq op h).1
 have key:∀ (l:List MemOp) (t:Trace),(∀ op ∈ l,op.act.touch?=none) → (∀ said,¬ Race said t) → ∀ said,¬ Race said (t ++ l.toArray):=by
   intro l
   induction l with
   | nil => intro t _ h; simpa using h
   | cons x l ih =>
     intro t hx h
     have:=ih (t ++ #[x]) (fun op y => hx op (by simp [y])) fun said => noRace_append (g:=x.g) (h said) (fun op y => by simp at y; rw [y]) fun i a _ op hop b hb _ => by
       rw [show op=x by simpa using hop,hx x (by simp)] at hb; cases hb
     simpa [Array.append_assoc] using this
 have hn:∀ i x,touchAt t i=some x → x.loc.isMemory=true → Knows t 0 i:=fun i x h m => (hP.known i x h m).resolve_right fun y => y.1
 refine ⟨hc,by omega,by simp,by simp,.inl rfl,?_,?_,?_,?_,fun x hx => hx.elim,fun x hx => hx.elim,⟨?_,?_,?_,?_,?_,?_,?_,?_⟩,?_,hk⟩
 · intro i g hi0 hib hg
   have hlt':i < gs.size:=by
     have:=(Array.getElem?_eq_some_iff.1 hg).1
     simp at this
     omega
   rw [Array.getElem?_push,if_neg (by simp; omega),Array.getElem?_setIfInBounds_ne (Ne.symm hi0)] at hg
   rw [hd]
   exact hL.old i g (by omega) hg
 · intro i hi
   rw [hd]
   exact hL.above i (by simp at hi; omega)
 · rintro x (h | h | rfl)
   · exact (lo x h).1
   · exact h.elim
   · exact hcB
 · intro x hx
   exact ⟨fun h => h,fun h => h,(lo x hx).2⟩
 · have:=key u.toList t (fun op h => ht op (by simpa using h)) hP.clean
   simpa using this
 · exact May.app ⟨fun i a h hb => hn i a h (inB_mem hb),fun i a h hb _ => hn i a h (inB_mem hb)⟩ ht
 · exact May.app ⟨fun i a h hb => by cases hl:a.loc <;> (rw [hl] at hb; exact hb.elim),fun i a h hb _ => by cases hl:a.loc <;> (rw [hl] at hb; exact hb.elim)⟩ ht
 · intro i x hx hm
   rcases touch_new hx with h | ⟨op,h,_,h2⟩
   · exact .inl ((hn i x h hm).app u)
   · rw [ht op h] at h2; cases h2
 · exact over_app (fun i g h1 h2 _ h3 => hP.over i g h1 h2 h3) fun op h => .inr (.inr (ht op h))
 · rw [hd]; exact hP.hears
 · rw [hd]; exact hL.above _ (Nat.le_refl _)
 · exact seen_app hP.seen fun op h => (hq op h).2.2
 · exact nobody_app al fun op h x hx => by rw [ht op h] at hx; cases hx
end Go.Proofs.YthhfljldbfgpcaaGreatDoor.Co
end

section
namespace Go.Proofs.YthhfljldbfgpcaaGreatDoor
open Go.RowKit Go.Conc Go.Proofs.YthhfljldbfgpcaaGreatDoor.Co Go.Proofs.YthhfljldbfgpcaaGreatDoor.Ok Go.Proofs.YthhfljldbfgpcaaGreatDoor.Lr Go.Proofs.YthhfljldbfgpcaaGreatDoor.Tl Go.Proofs.YthhfljldbfgpcaaGreatDoor.Bar
noncomputable def mR9:Code:=match mD with | .seq _ (.seq _ (.seq _ (.seq a _))) => a | _ => .skip
noncomputable def mR10:Code:=match mD with | .seq _ (.seq _ (.seq _ (.seq _ (.seq a _)))) => a | _ => .skip
noncomputable def mR12:Code:=match mY0 with | .seq a _ => a | _ => .skip
noncomputable def ops9:Array Oper:=opsOf mR9
noncomputable def ops10:Array Oper:=opsOf mR10
noncomputable def ops12:Array Oper:=opsOf mR12
theorem cuts9 {d:Code} (h:Cuts Tryz.prog "9" d):d=.region 9 ops9 false:=cuts_one (f:=5) h (by decide) (by kernel_rfl)
theorem cuts10 {d:Code} (h:Cuts Tryz.prog "10" d):d=.region 10 ops10 false:=cuts_one (f:=5) h (by decide) (by kernel_rfl)
theorem cuts12 {d:Code} (h:Cuts Tryz.prog "12" d):d=.region 12 ops12 false:=cuts_one (f:=5) h (by decide) (by kernel_rfl)
theorem op9_0:∃ o,ops9[0]?=some o ∧ o.op=.makeChan 57 (.const (.int .i64 0)) ∧ o.dst=some 48 ∧ o.guard=none:=⟨ops9.getD 0 default,by kernel_rfl,by kernel_rfl,by kernel_rfl,by kernel_rfl⟩
theorem op9_1:∃ o,ops9[1]?=some o ∧ o.op=.assign (.tmp 48) ∧ o.dst=some 12 ∧ o.guard=none:=⟨ops9.getD 1 default,by kernel_rfl,by kernel_rfl,by kernel_rfl,by kernel_rfl⟩
theorem op10_0:∃ o,ops10[0]?=some o ∧ o.op=.move (.tmp 12) ∧ o.dst=some 49 ∧ o.guard=none:=⟨ops10.getD 0 default,by kernel_rfl,by kernel_rfl,by kernel_rfl,by kernel_rfl⟩
theorem op10_1:∃ o,ops10[1]?=some o ∧ o.op=.move (.tmp 0) ∧ o.dst=some 50 ∧ o.guard=none:=⟨ops10.getD 1 default,by kernel_rfl,by kernel_rfl,by kernel_rfl,by kernel_rfl⟩
theorem op10_2:∃ o,ops10[2]?=some o ∧ o.op=.move (.tmp 1) ∧ o.dst=some 51 ∧ o.guard=none:=⟨ops10.getD 2 default,by kernel_rfl,by kernel_rfl,by kernel_rfl,by kernel_rfl⟩
theorem op10_3:∃ o,ops10[3]?=some o ∧ o.op=.move (.tmp 2) ∧ o.dst=some 52 ∧ o.guard=none:=⟨ops10.getD 3 default,by kernel_rfl,by kernel_rfl,by kernel_rfl,by kernel_rfl⟩
theorem op10_4:∃ o,ops10[4]?=some o ∧ o.op=.move (.tmp 3) ∧ o.dst=some 53 ∧ o.guard=none:=⟨ops10.getD 4 default,by kernel_rfl,by kernel_rfl,by kernel_rfl,by kernel_rfl⟩
theorem op10_5:∃ o,ops10[5]?=some o ∧ o.op=.go { callee:=.value (.func 21),args:=#[.tmp 49,.tmp 50,.tmp 51,.tmp 52,.tmp 53],argTypes:=#[96,23,3,3,3] } ∧ o.dst=none ∧ o.guard=none:=⟨ops10.getD 5 default,by kernel_rfl,by kernel_rfl,by kernel_rfl,by kernel_rfl⟩
theorem op12_0:∃ o,ops12[0]?=some o ∧ o.op=.recv 57 (.tmp 54) true ∧ o.dst=some 55 ∧ o.guard=none:=⟨ops12.getD 0 default,by kernel_rfl,by kernel_rfl,by kernel_rfl,by kernel_rfl⟩
theorem op12_1:∃ o,ops12[1]?=some o ∧ o.op=.extract (.tmp 55) 1 ∧ o.dst=some 56 ∧ o.guard=none:=⟨ops12.getD 1 default,by kernel_rfl,by kernel_rfl,by kernel_rfl,by kernel_rfl⟩
theorem size9:ops9.size=2:=by kernel_rfl
theorem size10:ops10.size=6:=by kernel_rfl
theorem size12:ops12.size=2:=by kernel_rfl
def zRow:Value:=.agg #[.slice none 0 0,.slice none 0 0]
def elemOf:TypeDesc → Nat
 | .chan _ e => e
 | _ => 0
theorem chan_row:∃ d,Tryz.prog.underlying 57=some (.chan d 60):=by
 have h:(Tryz.prog.underlying 57).map elemOf=some 60:=by kernel_rfl
 cases hu:Tryz.prog.underlying 57 with
 | none => rw [hu] at h; cases h
 | some x =>
   rw [hu] at h
   have h:elemOf x=60:=by simpa using h
   cases x with
   | chan d e =>
     have h:e=60:=h
     subst h
     exact ⟨d,rfl⟩
   | _ => cases h
theorem info_row:∃ i,Tryz.prog.info? 60=some i ∧ i.zero=some zRow ∧ i.bytes=48:=by
 have h:(Tryz.prog.info? 60).map (fun i => (i.zero,i.bytes))=some (some zRow,48):=by kernel_rfl
 cases hu:Tryz.prog.info? 60 with
 | none => rw [hu] at h; cases h
 | some x =>
   rw [hu] at h
   obtain ⟨h1,h2⟩:=Prod.mk.inj (Option.some.inj h)
   exact ⟨x,rfl,h1,h2⟩
section
variable {b:Frame} {a:Act} {k:List Item} {cs base:List Frame} {w:World}
theorem step_make (hk:b.kind ≠ .early):stepG Tryz.prog true (G (b.at a (.inRegion ops9 [0,1] :: k)) cs) w=.go (G (b.at (a.put (some 48) (.chan (some w.heap.size))) (.inRegion ops9 [1] :: k)) cs) (w.alloc (.chan 0 #[] false 0 0 false)) #[]:=by
 obtain ⟨o,ho,hop,hd,hg⟩:=op9_0
 obtain ⟨d,hu⟩:=chan_row
 obtain ⟨i,hi,_,hb⟩:=info_row
 have hr:(execOp a.eval o).run Tryz.prog w=.ok (.value (.chan (some w.heap.size))) (w.alloc (.chan 0 #[] false 0 0 false)):=by
   unfold execOp
   simp only [hop]
   have:=run_makeChan (w:=w) hu hi .i64 0 (by omega) (by rw [hb]; omega)
   simp [Act.eval,go_sem] at this ⊢
   simp [this]
 have he:(execOp a.eval o).events Tryz.prog w #[]=#[]:=by
   unfold execOp
   simp only [hop]
   have:=events_makeChan (w:=w) hu hi .i64 0 (by omega) (by rw [hb]; omega) #[]
   simp [Act.eval,go_sem] at this ⊢
   simp [this]
 rw [stepG_value ho (by simp [Region.wanted,hg]) hk hr,hd]
 unfold listed
 rw [he,seen_none]
theorem stops_recv {c:Nat} (hk:b.kind ≠ .early) (hx:a.eval (.tmp 54)=.chan (some c)):Stops Tryz.prog true base c (.recv zRow) (b.at a (.inRegion ops12 [0,1] :: k)) cs:=by
 obtain ⟨o,ho,hop,hd,hg⟩:=op12_0
 obtain ⟨d,hu⟩:=chan_row
 obtain ⟨i,hi,hz,_⟩:=info_row
 intro w
 have hr:(execOp a.eval o).run Tryz.prog w=.ok (.comm #[rcase c zRow] true (.recv true)) w:=by
   unfold execOp
   simp only [hop,hx]
   simp [go_sem,zeroValue,typeInfo,run_underlying hu,hi,hz,rcase]
 have he:(execOp a.eval o).events Tryz.prog w #[]=#[]:=by
   unfold execOp
   simp only [hop,hx]
   simp [go_sem,run_underlying hu]
 rw [stepG_comm (cases:=#[rcase c zRow]) (blocking:=true) (shape:=.recv true) (w':=w) ho (by simp [Region.wanted,hg]) hk hr]
 unfold listed
 rw [he,seen_none]
 rfl
theorem yields_extract {v x:Value} (h:a.eval (.tmp 55)=.tuple #[v,x]) {o:Oper} (hop:o.op=.extract (.tmp 55) 1):Co.Yields Tryz.prog a o x:=fun w => by
 constructor
 · unfold execOp
   simp only [hop,h]
   simp [go_sem,Instr.extract]
 · unfold execOp
   simp only [hop,h]
   simp [go_sem,Instr.extract]
theorem step_go (hk:b.kind ≠ .early):stepG Tryz.prog true (G (b.at a (.inRegion ops10 [5] :: k)) cs) w=.spawn (G (b.at a (.inRegion ops10 [] :: k)) cs) (G (bornF #[a.eval (.tmp 49),a.eval (.tmp 50),a.eval (.tmp 51),a.eval (.tmp 52),a.eval (.tmp 53)]) []) w #[]:=by
 obtain ⟨o,ho,hop,hd,hg⟩:=op10_5
 have ef:a.eval (.func 21)=.func (.func 21) #[] #[]:=rfl
 have hr:(execOp a.eval o).run Tryz.prog w=.ok (.spawn ⟨.fn (.func 21) #[],#[a.eval (.tmp 49),a.eval (.tmp 50),a.eval (.tmp 51),a.eval (.tmp 52),a.eval (.tmp 53)]⟩) w:=by
   unfold execOp
   simp [hop,resolve,Deferred.ofValue,ef]
 have he:(execOp a.eval o).events Tryz.prog w #[]=#[]:=by
   unfold execOp
   simp [hop,resolve,Deferred.ofValue,ef]
 rw [stepG_spawn ho (by simp [Region.wanted,hg]) hk hr rfl,hd]
 unfold listed
 rw [he,seen_none]
 rfl
end
end Go.Proofs.YthhfljldbfgpcaaGreatDoor
end
