/- Merged texts: SiC, MaQ, MaR, SiE. -/
import Derived.Test.YtokbalggdhippaaGreatR40
import Derived.Test.YtokbalggdhippaaGreatR35
set_option linter.all false
section
namespace Go.Proofs.YtokbalggdhippaaGreat.Co
open Go.Conc Go.Proofs.YtokbalggdhippaaGreat.Tl Go.Proofs.YtokbalggdhippaaGreat.Lr Go.Proofs.YtokbalggdhippaaGreat.Bar
open Go.ConcN (sumTo)
def Ends (P:Program) (Post:Value → World → Prop) (gs:Array Goroutine) (w:World) (sl:Option (Nat × Nat)) (t:Trace):Prop :=
 ∃ N last o w' t',runNT P (N + 1) (crowd gs w sl) t=(.ended o w',t') ∧ runN P N (crowd gs w sl)=.next last ∧ step P last=.ended o w' ∧ Conc.Good P Post last o w' t'
theorem Ends.ran {P:Program} {Post:Value → World → Prop} {gs gs':Array Goroutine} {w w':World} {sl sl':Option (Nat × Nat)} {t t':Trace} (h:Ran P gs w sl t gs' w' sl' t') (k:Ends P Post gs' w' sl' t'):Ends P Post gs w sl t:=by
 obtain ⟨M,h⟩:=h
 obtain ⟨N,last,o,w1,t1,h1,h2,h3,h4⟩:=k
 refine ⟨M + N,last,o,w1,t1,by rw [Nat.add_assoc,runNT_add,h]; exact h1,?_,h3,h4⟩
 have e:runNT P (M + N) (crowd gs w sl) t=runNT P N (crowd gs' w' sl') t':=by rw [runNT_add,h]
 rw [← runNT_fst _ _ _ t,e,runNT_fst]
 exact h2
structure Kept (X:Cx) (m0:Nat) (w0:World) (B:Lk) (w:World):Prop where
 low:∀ x y,B x y → ¬ X.F x → m0 ≤ y
 size:m0 ≤ w.heap.size
 old:∀ x,x < m0 → w.heap[x]?=w0.heap[x]?
 tape:w.tape=w0.tape
 os:w.os=w0.os ∧ w.output=w0.output
theorem Kept.at {X:Cx} {m0:Nat} {w0 w:World} {B:Lk} (h:Kept X m0 w0 B w) (d:Nat):Kept X m0 w0 B (w.at d):=⟨h.low,h.size,h.old,h.tape,h.os⟩
theorem Kept.step {X:Cx} {m0:Nat} {w0 w V V1 W1:World} {B B':Lk} {n:Array Event} (h:Kept X m0 w0 B w) (hx:Ext X B V w B' V1 W1) (hd:Did (Hot X B) (Ice X B) w (Hot X B') W1 n):Kept X m0 w0 B' W1 where
 low x y k hf:=(hx.new x y k).elim (fun z => h.low x y z hf) fun z => Nat.le_trans h.size z.2
 size:=Nat.le_trans h.size hd.size
 old x k:=(hd.kept x (Nat.lt_of_lt_of_le k h.size) fun ⟨a,h1,_,hf⟩ => Nat.not_le.2 k (h.low a x h1 hf)).trans (h.old x k)
 tape:=hd.tape.trans h.tape
 os:=⟨hd.os.1.trans h.os.1,hd.os.2.trans h.os.2⟩
def Sim (X:Cx) (P':Program) (m0:Nat) (w0:World) (Post:Value → World → Prop) (x:St):Prop :=
 ∀ (B:Lk) (τ:Tape) (d:Nat) (gs:Array Goroutine) (w:World) (sl:Option (Nat × Nat)) (t:Trace) (q:Nat → Nat) (fr':Frame) (cs':List Frame),WR X B (x.at τ d).V w → FrR X B x.fr fr' → CsR X B x.cs cs' → botR x.fr x.cs=none → Kept X m0 w0 B w →
   gs[0]?=some (G fr' cs') → Leavers P' t gs q → Past (fun _ => False) w.heap.size t → Ends P' Post gs w sl t
def Parts (X:Cx) (P P':Program) (F:St → Prop) (m0:Nat) (w0:World) (Post:Value → World → Prop):Prop :=
 ∀ (f:FuncId) (p p':Array Value) (c:Frame) (cs:List Frame) (V:World) (B:Lk) (gs:Array Goroutine) (w:World) (sl:Option (Nat × Nat)) (t:Trace) (q:Nat → Nat) (cs':List Frame),X.T f ∧ X.Ar f p.size → Bar.Way P F ⟨Frame.enter P f p .normal,c :: cs,V⟩ → (∀ y,Sub P ⟨Frame.enter P f p .normal,c :: cs,V⟩ y → Sim X P' m0 w0 Post y) →
   botR (Frame.enter P f p .normal) (c :: cs)=none → Kept X m0 w0 B w → WR X B V w → AR X B p p' → CsR X B (c :: cs) cs' → gs[0]?=some (G (Frame.enter P' f p' .normal) cs') → Leavers P' t gs q → Past (fun _ => False) w.heap.size t → Ends P' Post gs w sl t
section
variable {X:Cx} {P P':Program} {F:St → Prop} {m0:Nat} {w0:World} {Post:Value → World → Prop}
theorem sim_step (H:Whole X P P') (hDn:¬ X.Dn) (hpart:Parts X P P' F m0 w0 Post) (x:St) (g:Tape → Nat → St) (hg:∀ τ d,Go1 P (x.at τ d) (g τ d)) (hway:∀ τ d,Bar.Way P F (g τ d)) (ih:∀ τ d y,Sub P (g τ d) y → Sim X P' m0 w0 Post y):Sim X P' m0 w0 Post x:=by
 intro B τ d gs w sl t q fr' cs' hw hf hc hb hkp h0 hL hP
 obtain ⟨N5,gs5,d5,sl5,t5,q5,j1,j2,j3,j4,j5,_,d6,sl6,j6⟩:=picked0 (P:=P') (sumTo gs.size q) gs w sl t q rfl h0 hL hP
 have hw3:WR X B (x.at w.tape d6).V (w.at d6):=wr_at hw w.tape d6
 have hgo:=hg w.tape d6
 have hp:=hgo.not_pop
 have hd1:=ih w.tape d6
 have hd2:=hway w.tape d6
 generalize g w.tape d6=z at hgo hd1 hd2
 obtain ⟨es,hgo⟩:=hgo
 obtain ⟨c1,c1',fr1',B',W1,n,e1,e2,hx,hw1,hn,hst⟩:=(step_lr H hw3 (base:=[wall P]) (base':=[]) hf hc (hb_of hp hb) true true).1 _ _ _ _ hgo
 obtain rfl:=List.append_cancel_right e1
 have hbt:=(step_bot H hw3 (base:=[wall P]) hf hc (hb_of hp hb) true _ _ _ _ hgo).trans hb
 rw [List.append_nil,List.append_nil] at e2
 have hdid:=did_of hw3 hw1 hx hn
 have hkp1:=(hkp.at d6).step hx hdid
 obtain ⟨gs7,ops,i1,i2,i3,i4,i5⟩:=main_step (sl:=sl6) (w:=w.at d6) j3 e2 hdid (fun b ⟨a,h1,_⟩ => hw3.ltW h1) j4 j5
 refine Ends.ran (Ran.trans ⟨N5,j1⟩ (Ran.head (by rw [j6]; exact i1) .refl)) ?_
 rcases hst with ⟨g1,g2⟩ | ⟨f,p,p',k,ht,⟨hk,hne⟩,ef,ef',hpp,hcc⟩
 · exact hd1 z (.refl z) B' z.V.tape z.V.drawn gs7 W1 sl6 _ q5 fr1' c1' hw1 g1 g2 hbt hkp1 i3 i4 i5
 · obtain rfl:=hk.resolve_right hDn
   obtain ⟨zf,zc,zV⟩:=z
   dsimp only at ef hne hcc hw1 hbt hd1 hd2
   subst ef ef'
   cases zc with
   | nil => exact absurd rfl hne
   | cons c0 cs0 => exact hpart f p p' c0 cs0 zV B' gs7 W1 sl6 _ q5 c1' ht hd2 hd1 hbt hkp1 hw1 hpp hcc i3 i4 i5
theorem sim_fin (H:Whole X P P') {Q:Value → World → Prop} (hQ:∀ v w τ d,Q v w → Q v { w with tape:=τ,drawn:=d }) (hpost:∀ B V v v' W,Q v V → VR X B v v' → WR X B V W → Kept X m0 w0 B W → Post v' W) {x:St} (hx:Fin P Q x) (hm:P'.inits.idxOf? x.fr.fn=none):Sim X P' m0 w0 Post x:=by
 intro B τ d gs w sl t q fr' cs' hw hf hc hb hkp h0 hL hP
 obtain ⟨h1,v,⟨g1,g2,g3,fn,g4,g5⟩,hq⟩:=hx
 obtain rfl:cs'=[]:=by rw [h1] at hc; cases hc; rfl
 have hm':fr'.mode=.returning:=by
   have:=hf.mode
   rw [g1] at this
   generalize fr'.mode=q at this
   cases this
   rfl
 have hd':fr'.defers=[]:=by
   have:=hf.defers
   rw [g2] at this
   generalize fr'.defers=q at this
   cases this
   rfl
 have hk':fr'.kind=.normal:=hf.kind.trans g3
 obtain ⟨fn',e5,hres⟩:∃ fn',P'.funcs[x.fr.fn]?=some fn' ∧ fn'.results=fn.results:=by
   rcases H.hF.funcs x.fr.fn with ⟨e1,e2⟩ | ⟨f1,f2,e1,e2,hn,hr,_⟩
   · rw [g4] at e1; cases e1
   · rw [g4] at e1; cases e1; exact ⟨f2,e2,hr⟩
 refine beside_ends (Shun:=fun _ => False) (B:=w.heap.size) (D:=fun _ _ _ => False) (n:=0) (fun _ _ _ h => h.elim) h0 hL hP ?_
 rintro w2 ⟨d2,rfl⟩
 have hw2:WR X B (x.at w.tape d2).V (w.at d2):=wr_at hw w.tape d2
 have g6:=results_lr H hw (fr':=fr') hf g4 (fr:=x.fr) (V:=(x.at τ d).V) (v:=v) (by
   have:=results_lr H (wr_at (τ:=x.V.tape) (d:=x.V.drawn) hw) hf g4 g5 τ d
   exact this) w.tape d2
 have g6:(results fn x.fr.tmps).run P (x.at w.tape d2).V=.ok v (x.at w.tape d2).V:=g6
 rcases run_lr (sr_results H.hF.toPRel hres hf.tmps) hw2 with ⟨a,V1,B1,W1,b,n,e1,e2,hx,hw1,hab,hn⟩ | ⟨v,V1,B1,W1,v',n,e1,e2,hx,hw1,hab,hn⟩ | ⟨h,V1,e1,hm⟩
 · rw [g6] at e1
   injection e1 with e1 e3
   subst e1 e3
   have hW:W1=w.at d2:=by
     have:=e2 #[]
     rw [Sem.runT_eq] at this
     exact Ro.results fn' fr'.tmps (w.at d2) b W1 (congrArg Prod.fst this)
   subst hW
   have hdid:=did_of hw2 hw1 hx (hn.seen (P':=P') fr'.fn)
   refine ⟨rfl,b,seen P' fr'.fn n,?_,fun e he => evC_evL (hdid.evs e he) hdid.lt fun z ⟨y,hy,_⟩ => hw2.ltW hy,hpost _ _ _ _ _ (hQ _ _ w.tape d2 hq) hab hw1 ((hkp.at d2).step hx hdid)⟩
   rw [stepG_unwind (by rw [hm']; simp)]
   unfold unwind
   rw [hd',hm',hf.fn,e5]
   dsimp only
   rw [e2 #[],Array.empty_append]
   dsimp only
   unfold doReturn
   rw [hk']
   rw [← hf.fn] at hm
   simp [GStep.after,hm]
 · rw [g6] at e1; cases e1
 · rw [g6] at e1; cases e1
theorem sim (H:Whole X P P') (hDn:¬ X.Dn) {Q:Value → World → Prop} (hpart:Parts X P P' F m0 w0 Post) (hQ:∀ v w τ d,Q v w → Q v { w with tape:=τ,drawn:=d }) (hF:∀ x,F x → Fin P Q x ∧ P'.inits.idxOf? x.fr.fn=none) (hpost:∀ B V v v' W,Q v V → VR X B v v' → WR X B V W → Kept X m0 w0 B W → Post v' W) {x:St} (h:Bar.Way P F x):Sim X P' m0 w0 Post x :=
 way_sub (fun x h => Fin.pop (hF x h).1) (fun x h => sim_fin H hQ hpost (hF x h).1 (hF x h).2) (fun x g hg hw ih => sim_step H hDn hpart x g hg hw ih) h x (.refl x)
theorem way_of {XV:Cx} {PV:Program} (HV:Whole XV PV PV) (hT:∀ f,¬ XV.T f) {Q:Value → World → Prop} (hQ:∀ v w τ d,Q v w → Q v { w with tape:=τ,drawn:=d }) {f:FuncId} {args:Array Value} {V:World} (hj:JL XV ⟨Frame.enter PV f args .normal,[],V⟩)
   (h:∀ τ d,Calls PV f args { V with tape:=τ,drawn:=d } (only Q)):Bar.Way PV (fun x => Fin PV Q x ∧ x.fr.fn=f) ⟨Frame.enter PV f args .normal,[],V⟩:=by
 have K:Keeps PV (fun x => Fin PV Q x ∧ x.fr.fn=f) (JL XV):=keeps_lr HV hT fun x τ d hj hx => ⟨fin_blind HV hQ x τ d hj hx.1,hx.2⟩
 refine bar K hj fun τ d => ?_
 obtain ⟨e,w',fr,hr,hs,hf,hl⟩:=h τ d [wall PV]
 cases e with
 | returned v =>
   obtain ⟨n,hs⟩:=hs
   exact steps_rch K (z:=⟨fr,[],w'⟩) ⟨⟨rfl,v,hl,hr⟩,hf⟩ n _ (K.tape _ τ d hj) hs
 | panicked chain => exact hr.elim
 | outgrown => exact hr.elim
end
end Go.Proofs.YtokbalggdhippaaGreat.Co
end

section
namespace Go.Proofs.YtokbalggdhippaaGreat
open Go.ConcN (sumTo)
open Go.RowKit Go.Conc Go.Proofs.YtokbalggdhippaaGreat.Co Go.Proofs.YtokbalggdhippaaGreat.Ok Go.Proofs.YtokbalggdhippaaGreat.Lr Go.Proofs.YtokbalggdhippaaGreat.Tl Go.Proofs.YtokbalggdhippaaGreat.Bar
theorem rowsOf_len {α:Type} (n:Nat) (f:Nat → Nat → α):∀ i,(rowsOf n f i).length=i * n
 | 0 => by simp [rowsOf]
 | i + 1 => by rw [rowsOf_succ,List.length_append,rowsOf_len n f i,List.length_map,List.length_range,Nat.succ_mul]
theorem tileQ_blind {cx cy d n:Nat} {good:Bool} {xs:List Nat} {ys:List Int} (v:Value) (V:World) (τ:Tape) (k:Nat) (h:TileQ cx cy d n good xs ys v V):TileQ cx cy d n good xs ys v { V with tape:=τ,drawn:=k }:=h
theorem zRowR {X:Cx} {B:Lk}:VR X B zRow zRow:=.agg rfl fun i v v' h1 h2 => by
 rw [h1] at h2
 cases h2
 match i with
 | 0 => cases h1; exact .snil _ _
 | 1 => cases h1; exact .snil _ _
 | i + 2 => cases h1
theorem tile_good {cx cy d n:Nat} {most:Int} {px py:Nat → Nat → Nat} {bx:Nat → Nat → Value} {st:Nat → Nat → Int} {sm:Nat → Nat → Nat} {ex ey:Nat} (C:CellOK cx cy d n most px py bx st sm) (hn:n ≤ 8) (hn0:0 < n)
   (h:∀ W,Calls Vp.prog 33 #[.complex .f32 cx cy,.int .i64 d,.int .i64 n] W fun e w' => e=.returned (.bool true) ∧ W=w') (hp:∀ W,Calls Vp.prog 34 #[.complex .f32 cx cy,.int .i64 d,.int .i64 n,.int .i64 n] W fun e w' => e=.returned (.complex .f32 ex ey) ∧ W=w')
   (hf1:(FloatKind.f32.format.order ex 1090519040 == some .gt)=false) (hf2:(FloatKind.f32.format.order ey 1090519040 == some .gt)=false) {c0:Frame} {bs:List Frame} {gs:Array Goroutine} {w:World} {sl:Option (Nat × Nat)} {t:Trace} {q:Nat → Nat}
   (hN:Vp.prog.globals.size ≤ w.heap.size) (h0:gs[0]?=some (G (Frame.enter Tryz.prog 11 (tArgs cx cy d n most) .normal) (c0 :: bs))) (hL:Leavers Tryz.prog t gs q) (hP:Past (fun _ => False) w.heap.size t) :
   ∃ gs' w' sl' t' q' v',Ran Tryz.prog gs w sl t gs' w' sl' t' ∧ gs'.size=gs.size + 1 ∧ gs'[0]?=some (G (c0.finish v') bs) ∧ Leavers Tryz.prog t' gs' q' ∧ Past (fun _ => False) w'.heap.size t' ∧ w.heap.size ≤ w'.heap.size ∧ (∀ x,x < w.heap.size → w'.heap[x]?=w.heap[x]?) ∧
     w'.tape=w.tape ∧ w'.os=w.os ∧ w'.output=w.output ∧ TileW cx cy d n (rowsOf n sm n) (rowsOf n st n) w.heap.size v' w':=by
 obtain ⟨gs1,w1,sl1,t1,q1,B,V,ww,b',a,a',e',c,L,rb,ob,gS,gM,r1,z1,g1,g2,sit,hLe,hMS,y1,y2,y3,y4,y5,hTX⟩:=phase_start (most:=most) hn h hp hf1 hf2 (sl:=sl) hN h0 hL hP
 
 have hA:Co Tryz.prog true (c0 :: bs) (Ice (Xs w.heap.size fun _ => False) B) (fun L fr cs W => Stops Tryz.prog true (c0 :: bs) c (.recv zRow) fr cs ∧ RecvP w.heap.size c w.heap.size cx cy d n 0 [] [] (Ice (Xs w.heap.size fun _ => False) B) L fr cs W) (Hot (Xs w.heap.size fun _ => False) B) (b'.at a' (.inRegion ops10 [] :: [.code e'])) [] w1:=by
   refine Co.regionEnd (WH.hot ⟨V,rfl,hMS.wr⟩) fun W2 hr => ?_
   exact stretchM (ww:=ww) (rb:=rb) (ob:=ob) (gS:=gS) (gM:=gM) (hMS.rely hr) (Nat.le_trans sit.kept.1 hr.1) fun τ k => hm_first y1 y2 y3 y4 y5 (tx_blind hTX τ k)
 rw [ice_none,← hLe] at hA
 have hc1:c < w1.heap.size:=by obtain ⟨s,tm,hc⟩:=sit.chan; exact (Array.getElem?_eq_some_iff.1 hc).1
 have hS:=send_born (most:=most) C hn hn0 (c:=c) hc1 (Nat.le_trans hN sit.kept.1)
 have hb0:Both w.heap.size c w.heap.size gs.size cx cy d n st sm w (c0 :: bs) 0 n gs1 w1 t1 q1 L (fun _ => False) (fun _ => False) _ _ [] [] w1 w1 :=
   ⟨by rw [Nat.zero_mul]; exact hA,hS,sit,g1,g2,rely_refl _ _ _,rely_refl _ _ _⟩
 obtain ⟨gs2,w2,sl2,t2,q2,La2,Lb2,R2,fra2,frb2,csa2,csb2,Wa2,Wb2,r2,z2,hb⟩:=rows_loop hn hN n 0 (by omega) (sl:=sl1) hb0
 
 have hS2:=hb.S
 unfold SendS at hS2
 obtain ⟨gs3,w3,sl3,t3,q3,La3,fr3,cs3,W3,r3,z3,g3,hK,hr3,hL3,hP3,hlow3,hdis3,hR3,hkept3⟩:=finish (K:=fun L fr cs W => RecvP w.heap.size c w.heap.size cx cy d n (n * n) (rowsOf n sm n) (rowsOf n st n) R2 L fr cs W) hb.A hS2 (sl:=sl2) hb.sit hb.ga hb.gb hb.ra hb.rb
 obtain ⟨F,B3,V3,ww3,a3,a3',b3',k3',rb3,ob3,gS3,gM3,rfl,rfl,hMS3,hMA3,hTX3,rfl,rfl⟩:=hK
 have hMS4:=hMS3.rely hr3
 have hCo:=after_recv (base:=c0 :: bs) (Post:=PostR (Xs w.heap.size F) V3.heap.size w3.heap.size B3 (Fin Vp.prog (TileQ cx cy d n true (rowsOf n sm n) (rowsOf n st n)))) (vV:=zRow) (vW:=zRow) (y:=false) hMS4 hMA3.size zRowR fun τ k W2 hsz hM =>
   (last_ret (cx:=cx) (cy:=cy) (d:=d) (n:=n) (good:=true) (xs:=rowsOf n sm n) (ys:=rowsOf n st n) hM.wr hM.fr fun τ' k' => ⟨{ ww3 with tape:=τ',drawn:=k' },hm_last hMA3.puts (by
     rw [put_get (by decide)]
     exact Array.getElem?_setIfInBounds_self_of_lt (by rw [hMA3.size]; decide)) (Array.getElem?_setIfInBounds_self_of_lt (by rw [put_size,hMA3.size]; decide)) (tx_blind hTX3 τ' k')⟩).mono fun _ _ _ _ x => postR_weaken x hsz
 obtain ⟨N4,gs4,fr4,cs4,w4,W4,sl4,t4,q4,L4,k1,k2,k3,k4,k5,k6,k7,k8,_,_⟩:=co_beside2 hCo gs3 w3 sl3 t3 q3 g3 (rely_refl _ _ _) (fun x hx => (hR3 x hx).2) hL3 hP3
 
 obtain ⟨rfl,hret⟩:=ret_of_post (m:=true) (whole_s w.heap.size F) (Q:=TileQ cx cy d n true (rowsOf n sm n) (rowsOf n st n)) tileQ_blind k4 (R:=Ice (Xs w.heap.size F) B3) fun B1 hg _ => ice_gr hMS4.wr hg
 obtain ⟨N5,gs5,d5,sl5,t5,q5,j1,j2,j3,j4,j5,_,d6,sl6,j6⟩:=picked0 (P:=Tryz.prog) (sumTo gs4.size q4) gs4 w4 sl4 t4 q4 rfl k3 k6 k7
 obtain ⟨v',W6,n6,L6,hdid,hst,B6,V6,v6,hg6,hq6,hv6,hw6,rfl⟩:=hret (w4.at d6) (rely_at k5 d6)
 obtain ⟨gs7,ops,i1,i2,i3,i4,i5⟩:=main_step (sl:=sl6) (w:=w4.at d6) j3 (hst c0 bs) hdid (fun x hx => Nat.lt_of_lt_of_le (hR3 x hx).2 k8.size) j4 j5
 have hrun:Ran Tryz.prog gs w sl t gs7 W6 sl6 (t5 ++ ops):=(r1.trans (r2.trans (r3.trans (Ran.trans ⟨N4,k1⟩ ⟨N5,j1⟩)))).trans (Ran.head (by rw [j6]; exact i1) .refl)
 have hL4:∀ x,L4 x → w.heap.size ≤ x:=fun x hx => by
   rcases k8.new x hx with y | y
   · exact hlow3 x (.inl y)
   · exact Nat.le_trans hkept3.1 y
 refine ⟨gs7,W6,sl6,t5 ++ ops,q5,v',hrun,by rw [i2,j2,k2,z3,z2,z1],i3,i4,i5,Nat.le_trans hkept3.1 (Nat.le_trans k8.size hdid.size),fun x hx => ?_,?_,?_,?_,tileW_of hq6 hv6 hw6 (fun x y hxy => ?_) ?_ ?_⟩
 · rw [hdid.kept x (Nat.lt_of_lt_of_le hx (Nat.le_trans hkept3.1 k8.size)) fun hl => Nat.not_le.2 hx (hL4 x hl)]
   refine (k8.kept x (Nat.lt_of_lt_of_le hx hkept3.1) fun hl => Nat.not_le.2 hx (hlow3 x (.inl hl))).trans (hkept3.2.1 x hx)
 · exact hdid.tape.trans (k8.tape.trans hkept3.2.2.1)
 · exact hdid.os.1.trans (k8.os.1.trans hkept3.2.2.2.1)
 · exact hdid.os.2.trans (k8.os.2.trans hkept3.2.2.2.2)
 · rcases hg6.2 x y hxy with z | ⟨_,z⟩
   · exact hMS4.low x y z
   · exact Nat.le_trans hkept3.1 z
 · rw [rowsOf_len]; exact Nat.mul_pos hn0 hn0
 · rw [rowsOf_len]; exact Nat.mul_pos hn0 hn0
end Go.Proofs.YtokbalggdhippaaGreat
end

section
namespace Go.Proofs.YtokbalggdhippaaGreat
open Go.ConcN (sumTo)
open Go.RowKit Go.Conc Go.Proofs.YtokbalggdhippaaGreat.Co Go.Proofs.YtokbalggdhippaaGreat.Ok Go.Proofs.YtokbalggdhippaaGreat.Lr Go.Proofs.YtokbalggdhippaaGreat.Tl Go.Proofs.YtokbalggdhippaaGreat.Bar
theorem eq_flat {X:Cx} {B:Lk}:∀ (k:Nat) (v v':Value),flatV k v=true → VR X B v v' → v'=v:=by
 have rows:∀ (k:Nat) (p p':Array Value),(∀ v v',flatV k v=true → VR X B v v' → v'=v) → p.all (flatV k)=true → p.size=p'.size → (∀ (i:Nat) v v',p[i]?=some v → p'[i]?=some v' → VR X B v v') → p'=p:=by
   intro k p p' ih h hs hi
   rw [Array.all_eq_true_iff_forall_mem] at h
   apply Array.ext_getElem?
   intro i
   cases h1:p[i]? with
   | none =>
     rw [Array.getElem?_eq_none_iff] at h1 ⊢
     omega
   | some v =>
     have hlt:i < p'.size:=by rw [← hs]; exact (Array.getElem?_eq_some_iff.1 h1).1
     have h2:=Array.getElem?_eq_getElem hlt
     rw [h2,ih v _ (h v (Array.mem_of_getElem? h1)) (hi i v _ h1 h2)]
 intro k
 induction k with
 | zero => intro v v' h hv; cases hv <;> first | rfl | (simp [flatV] at h)
 | succ k ih =>
   intro v v' h hv
   cases hv with
   | agg hs hi => rw [rows k _ _ ih (by simpa only [flatV] using h) hs hi]
   | tuple hs hi => rw [rows k _ _ ih (by simpa only [flatV] using h) hs hi]
   | _ => first | rfl | (simp [flatV] at h)
theorem tile_bad {cx cy:Nat} {deep size most:Int} (hh:∀ a:Act,a.tmps.size=71 → a.tmps[0]?=some (.complex .f32 cx cy) → a.tmps[1]?=some (.int .i64 deep) → a.tmps[2]?=some (.int .i64 size) → a.tmps[3]?=some (.int .i64 most) → a.defers=[] → ∀ w,HW Vp.prog [.code (cut [9,10,12] mBody)] (HRet 0 0 0 0 false [] [] w) a w)
   {c0:Frame} {bs:List Frame} {gs:Array Goroutine} {w:World} {sl:Option (Nat × Nat)} {t:Trace} {q:Nat → Nat}
   (hN:Vp.prog.globals.size ≤ w.heap.size) (h0:gs[0]?=some (G (Frame.enter Tryz.prog 11 #[.complex .f32 cx cy,.int .i64 deep,.int .i64 size,.int .i64 most] .normal) (c0 :: bs))) (hL:Leavers Tryz.prog t gs q) (hP:Past (fun _ => False) w.heap.size t) :
   ∃ gs' w' sl' t' q' ,Ran Tryz.prog gs w sl t gs' w' sl' t' ∧ gs'.size=gs.size ∧ gs'[0]?=some (G (c0.finish (.tuple #[.agg (tileC 0 0 0 0 (.slice none 0 0) (.slice none 0 0)),.bool false])) bs) ∧ Leavers Tryz.prog t' gs' q' ∧ Past (fun _ => False) w'.heap.size t' ∧ w.heap.size ≤ w'.heap.size ∧ (∀ x,x < w.heap.size → w'.heap[x]?=w.heap[x]?) ∧
     w'.tape=w.tape ∧ w'.os=w.os ∧ w'.output=w.output:=by
 rw [enter_tile] at h0
 generalize hT:(#[.complex .f32 cx cy,.int .i64 deep,.int .i64 size,.int .i64 most]:Array Value) ++ Array.replicate (71 - (#[.complex .f32 cx cy,.int .i64 deep,.int .i64 size,.int .i64 most]:Array Value).size) undef=T at h0
 have hTs:T.size=71:=by rw [← hT]; simp
 have hT0:T[0]?=some (.complex .f32 cx cy):=by rw [← hT]; exact app_get rfl _
 have hT1:T[1]?=some (.int .i64 deep):=by rw [← hT]; exact app_get rfl _
 have hT2:T[2]?=some (.int .i64 size):=by rw [← hT]; exact app_get rfl _
 have hT3:T[3]?=some (.int .i64 most):=by rw [← hT]; exact app_get rfl _
 have hTR:AR (Xs w.heap.size fun _ => False) (fun _ _ => False) T T:=by
   rw [← hT]
   refine AR.append ⟨rfl,fun i v v' h1 h2 => ?_⟩ (AR.replicate _ undefR)
   rw [h1] at h2
   cases h2
   match i with
   | 0 => cases h1; exact .complex _ _ _
   | 1 => cases h1; exact .int _ _
   | 2 => cases h1; exact .int _ _
   | 3 => cases h1; exact .int _ _
   | i + 4 => cases h1
 have hhot:Hot (Xs w.heap.size fun _ => False) (fun _ _ => False)=fun _ => False:=by
   funext x; apply propext; exact ⟨fun ⟨b,h1,_⟩ => h1,fun h => h.elim⟩
 have hCo:=last_ret (base:=c0 :: bs) (cx:=0) (cy:=0) (d:=0) (n:=0) (good:=false) (xs:=[]) (ys:=[]) (start_wr hN) (a:=⟨T,[]⟩) (s:=[.code (cut [9,10,12] mBody)]) (fr:=bM.at ⟨T,[]⟩ [.code mBody])
   (fr_build hTR .nil (.cons (.code (cutM_is _ _)) .nil) rfl rfl) fun τ k => ⟨_,hh ⟨T,[]⟩ hTs hT0 hT1 hT2 hT3 rfl { V0 w with tape:=τ,drawn:=k }⟩
 rw [hhot,ice_none] at hCo
 obtain ⟨N4,gs4,fr4,cs4,w4,W4,sl4,t4,q4,L4,k1,k2,k3,k4,k5,k6,k7,k8,_,_⟩:=co_beside2 hCo gs w sl t q h0 (rely_refl _ _ _) (fun x hx => hx.elim) hL hP
 obtain ⟨rfl,hret⟩:=ret_of_post (m:=true) (whole_s w.heap.size fun _ => False) (Q:=TileQ 0 0 0 0 false [] []) tileQ_blind k4 (R:=fun _ => False) fun B1 hg _ => ice_none
 obtain ⟨N5,gs5,d5,sl5,t5,q5,j1,j2,j3,j4,j5,_,d6,sl6,j6⟩:=picked0 (P:=Tryz.prog) (sumTo gs4.size q4) gs4 w4 sl4 t4 q4 rfl k3 k6 k7
 obtain ⟨v',W6,n6,L6,hdid,hst,B6,V6,v6,hg6,hq6,hv6,hw6,rfl⟩:=hret (w4.at d6) (rely_at k5 d6)
 obtain ⟨gs7,ops,i1,i2,i3,i4,i5⟩:=main_step (sl:=sl6) (w:=w4.at d6) j3 (hst c0 bs) hdid (fun x hx => hx.elim) j4 j5
 have hrun:Ran Tryz.prog gs w sl t gs7 W6 sl6 (t5 ++ ops):=(Ran.trans ⟨N4,k1⟩ ⟨N5,j1⟩).trans (Ran.head (by rw [j6]; exact i1) .refl)
 have hL4:∀ x,L4 x → w.heap.size ≤ x:=fun x hx => (k8.new x hx).resolve_left id
 unfold TileQ at hq6
 rw [if_neg (by simp)] at hq6
 subst hq6
 have:=eq_flat 3 _ _ (by simp [flatV,tileC]) hv6
 subst this
 exact ⟨gs7,W6,sl6,t5 ++ ops,q5,hrun,by rw [i2,j2,k2],i3,i4,i5,Nat.le_trans k8.size hdid.size,fun x hx => by
   rw [hdid.kept x (Nat.lt_of_lt_of_le hx k8.size) fun hl => Nat.not_le.2 hx (hL4 x hl)]
   exact k8.kept x hx fun hl => hl,hdid.tape.trans k8.tape,hdid.os.1.trans k8.os.1,hdid.os.2.trans k8.os.2⟩
end Go.Proofs.YtokbalggdhippaaGreat
end

section
namespace Go.Proofs.YtokbalggdhippaaGreat
open Go.RowKit Go.Conc Go.Proofs.YtokbalggdhippaaGreat.Co Go.Proofs.YtokbalggdhippaaGreat.Ok Go.Proofs.YtokbalggdhippaaGreat.Lr Go.Proofs.YtokbalggdhippaaGreat.Tl Go.Proofs.YtokbalggdhippaaGreat.Bar
theorem steps_way {P:Program} {F:St → Prop} (hF:∀ x,F x → Pop x) {z:St}:∀ (n:Nat) (x:St),Bar.Way P F x → runN P n (lone x.fr (x.cs ++ [wall P]) x.V)=.next (lone z.fr (z.cs ++ [wall P]) z.V) → Sub P x z:=by
 intro n
 induction n with
 | zero =>
   intro x _ h
   simp only [runN] at h
   injection h with h
   injection h with h1 h2 _
   have h2:(#[{ frame:=x.fr,callers:=x.cs ++ [wall P],status:=.running,dying:=none }]:Array Goroutine)=#[{ frame:=z.fr,callers:=z.cs ++ [wall P],status:=.running,dying:=none }]:=h2
   simp only [Array.mk.injEq,List.cons.injEq,Goroutine.mk.injEq,and_true] at h2
   obtain ⟨a,b,c⟩:=x
   obtain ⟨a',b',c'⟩:=z
   dsimp only at h1 h2
   obtain ⟨rfl,h3⟩:=h2
   subst h1
   have h3:=List.append_cancel_right h3
   subst h3
   exact .refl _
 | succ n ih =>
   intro x hw h
   simp only [runN] at h
   cases hw with
   | fin hx =>
     have hp:=hF x hx
     rw [hp.1] at h
     rcases pop_ends (P:=P) hp with ⟨o,w,e⟩ | ⟨fr1,w,o,w1,e1,e2⟩
     · rw [List.nil_append,e] at h
       cases h
     · rw [List.nil_append,e1] at h
       dsimp only at h
       cases n with
       | zero =>
         simp only [runN] at h
         injection h with h
         injection h with _ h2 _
         have h2:(#[{ frame:=fr1,callers:=[],status:=.running,dying:=none }]:Array Goroutine)=#[{ frame:=z.fr,callers:=z.cs ++ [wall P],status:=.running,dying:=none }]:=h2
         simp at h2
       | succ n =>
         simp only [runN,e2] at h
         cases h
   | go g hg hw =>
     obtain ⟨es,k⟩:=hg x.V.tape x.V.drawn
     have k:stepG P true { frame:=x.fr,callers:=x.cs ++ [wall P],status:=.running,dying:=none } x.V=_:=k
     have:step P (lone x.fr (x.cs ++ [wall P]) x.V)=.next (lone (g x.V.tape x.V.drawn).fr ((g x.V.tape x.V.drawn).cs ++ [wall P]) (g x.V.tape x.V.drawn).V):=step_lone_go (by rw [k]; rfl)
     rw [this] at h
     exact .step x.V.tape x.V.drawn ⟨es,k⟩ (ih _ (hw _ _) h)
theorem call_way {P:Program} {F:St → Prop} (hF:∀ x,F x → Pop x) {f:FuncId} {args:Array Value} {V:World} {c:Frame} {cs:List Frame} {Q:Value → World → Prop} (hw:Bar.Way P F ⟨Frame.enter P f args .normal,c :: cs,V⟩) (h:Calls P f args V (fun e w => ∃ v,e=.returned v ∧ Q v w)) :
   ∃ v V',Q v V' ∧ Sub P ⟨Frame.enter P f args .normal,c :: cs,V⟩ ⟨c.finish v,cs,V'⟩:=by
 obtain ⟨e,w',fr,⟨v,rfl,hq⟩,hs,hf,hl⟩:=h (c :: cs ++ [wall P])
 have hs:Steps P (lone (Frame.enter P f args .normal) (c :: cs ++ [wall P]) V) (lone fr (c :: (cs ++ [wall P])) w'):=hs
 have h1:Steps P (lone fr (c :: (cs ++ [wall P])) w') (lone (c.finish v) (cs ++ [wall P]) w'):=⟨1,by
   simp only [runN]
   rw [step_leave_returned hl]⟩
 obtain ⟨n,hn⟩:=Steps.trans hs h1
 exact ⟨v,w',hq,steps_way hF (z:=⟨c.finish v,cs,w'⟩) n ⟨Frame.enter P f args .normal,c :: cs,V⟩ hw hn⟩
def mArgs (cx cy:Nat) (deep size most:Int):Array Value:=#[.complex .f32 cx cy,.int .i64 deep,.int .i64 size,.int .i64 most]
def zTile:Value:=.tuple #[.agg (tileC 0 0 0 0 (.slice none 0 0) (.slice none 0 0)),.bool false]
def ValsNo (cx cy:Nat) (deep size most:Int):Prop :=
 (∀ a:Act,a.tmps.size=71 → a.tmps[0]?=some (.complex .f32 cx cy) → a.tmps[1]?=some (.int .i64 deep) → a.tmps[2]?=some (.int .i64 size) → a.tmps[3]?=some (.int .i64 most) → a.defers=[] → ∀ w,HW Vp.prog [.code (cut [9,10,12] mBody)] (HRet 0 0 0 0 false [] [] w) a w) ∧
 ∀ V,Calls Vp.prog 11 (mArgs cx cy deep size most) V fun e V' => e=.returned zTile ∧ Below V.heap.size V V'
def ValsOk (cx cy:Nat) (deep size most:Int):Prop :=
 ∃ (d n:Nat) (px py:Nat → Nat → Nat) (bx:Nat → Nat → Value) (st:Nat → Nat → Int) (sm:Nat → Nat → Nat) (ex ey:Nat),deep=d ∧ size=n ∧ n ≤ 8 ∧ 0 < n ∧ CellOK cx cy d n most px py bx st sm ∧
   (∀ W,Calls Vp.prog 33 #[.complex .f32 cx cy,.int .i64 d,.int .i64 n] W fun e w' => e=.returned (.bool true) ∧ W=w') ∧ (∀ W,Calls Vp.prog 34 #[.complex .f32 cx cy,.int .i64 d,.int .i64 n,.int .i64 n] W fun e w' => e=.returned (.complex .f32 ex ey) ∧ W=w') ∧
   (FloatKind.f32.format.order ex 1090519040 == some .gt)=false ∧ (FloatKind.f32.format.order ey 1090519040 == some .gt)=false ∧
   ∀ V,Calls Vp.prog 11 (mArgs cx cy deep size most) V fun e V' => ∃ v,e=.returned v ∧ TileW cx cy d n (rowsOf n sm n) (rowsOf n st n) V.heap.size v V' ∧ Below V.heap.size V V'
def Vals:Prop:=∀ cx cy deep size most,ValsNo cx cy deep size most ∨ ValsOk cx cy deep size most
abbrev tmL:List (Nat × Nat):=[(11,4)]
section
variable {cl gl:List Nat} {Q:String → Code → Prop} {F:Nat → Prop} {L:Nat → Nat} {lf:∀ b,L b ≠ 0 → F b}
theorem tw_rel {cx cy d n gS gM gS' gM':Nat} {B:Lk} {V:World} (hF:∀ b,F b → b < V.heap.size) (h1:V.heap.size ≤ gS) (h2:V.heap.size ≤ gM) (b1:B gS gS') (b2:B gM gM') :
   VR (cxL Vp.prog tmL cl gl Q (fun _ => False) F False L lf) B (.tuple #[.agg (tileC cx cy d n (.slice (some ⟨gS,0,none⟩) (n * n) (n * n)) (.slice (some ⟨gM,0,none⟩) (n * n) (n * n))),.bool true])
     (.tuple #[.agg (tileC cx cy d n (.slice (some ⟨gS',0,none⟩) (n * n) (n * n)) (.slice (some ⟨gM',0,none⟩) (n * n) (n * n))),.bool true]):=by
 have hl:∀ g,V.heap.size ≤ g → L g ≤ 0:=fun g hg => Nat.le_of_eq (Decidable.byContradiction fun x => Nat.lt_irrefl _ (Nat.lt_of_lt_of_le (hF g (lf g x)) hg))
 refine .tuple rfl fun i v v' x x' => ?_
 match i with
 | 0 =>
   cases x; cases x'
   refine .agg rfl fun i v v' x x' => ?_
   match i with
   | 0 => cases x; cases x'; exact .complex _ _ _
   | 1 => cases x; cases x'; exact .int _ _
   | 2 => cases x; cases x'; exact .int _ _
   | 3 => cases x; cases x'; exact .slice _ _ ⟨⟨b1,id⟩,⟨rfl,hl _ h1⟩,rfl⟩
   | 4 => cases x; cases x'; exact .slice _ _ ⟨⟨b2,id⟩,⟨rfl,hl _ h2⟩,rfl⟩
   | i + 5 => cases x
 | 1 => cases x; cases x'; exact .bool _
 | i + 2 => cases x
theorem parts_of (hV:Vals) {Fi:St → Prop} (hFi:∀ x,Fi x → Pop x) (m0:Nat) (w0:World) (Post:Value → World → Prop) :
   Parts (cxL Vp.prog tmL cl gl Q (fun _ => False) F False L lf) Vp.prog Tryz.prog Fi m0 w0 Post:=by
 intro f p p' c cs V B gs w sl t q cs' hT hway hsub hb hkp hw hp hcs h0 hL hP
 obtain ⟨-,hT⟩:=hT
 have hT:(f,p.size) ∈ tmL:=hT
 simp only [List.mem_singleton,Prod.mk.injEq] at hT
 obtain ⟨rfl,hs⟩:=hT
 obtain ⟨cx,cy,deep,size,most,rfl⟩:=shape_of hFi hs hway
 obtain rfl:p'=mArgs cx cy deep size most:=by
   have:=eq_flat (X:=cxL Vp.prog tmL cl gl Q (fun _ => False) F False L lf) (B:=B) 1 (.agg (mArgs cx cy deep size most)) (.agg p') (by simp [flatV,mArgs]) (.agg hp.1 hp.2)
   injection this
 obtain ⟨c',cs'',rfl,hc,hcs⟩:∃ c' cs'',cs'=c' :: cs'' ∧ FrR (cxL Vp.prog tmL cl gl Q (fun _ => False) F False L lf) B c c' ∧ CsR (cxL Vp.prog tmL cl gl Q (fun _ => False) F False L lf) B cs cs'':=by
   cases hcs with
   | cons a b => exact ⟨_,_,rfl,a,b⟩
 have hbot:∀ v,botR (c.finish v) cs=none:=fun v => (botR_of (finish_round c v) cs).trans hb
 have hN:Vp.prog.globals.size ≤ w.heap.size:=hw.nW
 rcases hV cx cy deep size most with ⟨hh,hv⟩ | ⟨d,n,px,py,bx,st,sm,ex,ey,rfl,rfl,hn8,hn0,C,hpl,hpt,hf1,hf2,hv⟩
 · obtain ⟨v,V',⟨rfl,hbl⟩,hsb⟩:=call_way hFi hway (Q:=fun v V' => v=zTile ∧ Below V.heap.size V V') ((hv V).mono fun e V' ⟨h1,h2⟩ => ⟨_,h1,rfl,h2⟩)
   obtain ⟨gs',w',sl',t',q',r,-,g0,gL,gP,hsz,hkept,htape,hos,hout⟩:=tile_bad hh (sl:=sl) hN h0 hL hP
   have hw':WR (cxL Vp.prog tmL cl gl Q (fun _ => False) F False L lf) B { V' with tape:=w'.tape,drawn:=w'.drawn } w' :=
     wr_same hw (V':={ V' with tape:=w'.tape,drawn:=w'.drawn }) hbl.size (fun b hb => hbl.block b hb) hsz hkept rfl rfl (by rw [hos,hw.os]; exact hbl.os.symm) (by rw [hout,hw.output]; exact hbl.output.symm)
   refine Ends.ran r (hsub _ hsb B w'.tape w'.drawn gs' w' sl' t' q' _ cs'' hw' (hc.finish ?_) hcs (hbot _) ?_ g0 gL gP)
   · refine .tuple rfl fun i v v' x x' => ?_
     match i with
     | 0 =>
       cases x; cases x'
       refine .agg rfl fun i v v' x x' => ?_
       match i with
       | 0 => cases x; cases x'; exact .complex _ _ _
       | 1 => cases x; cases x'; exact .int _ _
       | 2 => cases x; cases x'; exact .int _ _
       | 3 => cases x; cases x'; exact .snil _ _
       | 4 => cases x; cases x'; exact .snil _ _
       | i + 5 => cases x
     | 1 => cases x; cases x'; exact .bool _
     | i + 2 => cases x
   · exact ⟨hkp.low,Nat.le_trans hkp.size hsz,fun x hx => (hkept x (Nat.lt_of_lt_of_le hx hkp.size)).trans (hkp.old x hx),htape.trans hkp.tape,⟨hos.trans hkp.os.1,hout.trans hkp.os.2⟩⟩
 · obtain ⟨v,V',⟨⟨gS,gM,rfl,l1,l2,l3,c1,c2⟩,hbl⟩,hsb⟩:=call_way hFi hway (Q:=fun v V' => TileW cx cy d n (rowsOf n sm n) (rowsOf n st n) V.heap.size v V' ∧ Below V.heap.size V V') (hv V)
   obtain ⟨gs',w',sl',t',q',v',r,-,g0,gL,gP,hsz,hkept,htape,hos,hout,⟨gS',gM',rfl,l1',l2',l3',c1',c2'⟩⟩:=tile_good C hn8 hn0 hpl hpt hf1 hf2 (sl:=sl) hN h0 hL hP
   have hw':WR (cxL Vp.prog tmL cl gl Q (fun _ => False) F False L lf) B { V' with tape:=w'.tape,drawn:=w'.drawn } w' :=
     wr_same hw (V':={ V' with tape:=w'.tape,drawn:=w'.drawn }) hbl.size (fun b hb => hbl.block b hb) hsz hkept rfl rfl (by rw [hos,hw.os]; exact hbl.os.symm) (by rw [hout,hw.output]; exact hbl.output.symm)
   have hnF:∀ g,V.heap.size ≤ g → ¬ F g:=fun g hg hf => Nat.lt_irrefl _ (Nat.lt_of_lt_of_le (hw.flt g hf) hg)
   have hfl:∀ (X:Cx) (x:Nat),Flat X (floV x):=fun X x B => .float _ _
   have hil:∀ (X:Cx) (x:Int),Flat X (intV x):=fun X x B => .int _ _
   have hw1:=wr_new hw' (s:=gS) (s':=gS') (fun y h => Nat.lt_irrefl _ (Nat.lt_of_lt_of_le (hw.ltV h) l1)) (fun x h => Nat.lt_irrefl _ (Nat.lt_of_lt_of_le (hw.ltW h) l1')) c1 c1'
     (fun v hv => by
       rw [List.mem_toArray,List.mem_map] at hv
       obtain ⟨x,_,rfl⟩:=hv
       exact hfl _ x) id (hnF gS l1) (Nat.le_trans hw.nV l1) (Nat.le_trans hw.nW l1')
   have hw2:=wr_new hw1 (s:=gM) (s':=gM') (fun y h => h.elim (fun h => Nat.lt_irrefl _ (Nat.lt_of_lt_of_le (hw.ltV h) l2)) fun h => l3 h.1.symm) (fun x h => h.elim (fun h => Nat.lt_irrefl _ (Nat.lt_of_lt_of_le (hw.ltW h) l2')) fun h => l3' h.2.symm) c2 c2'
     (fun v hv => by
       rw [List.mem_toArray,List.mem_map] at hv
       obtain ⟨x,_,rfl⟩:=hv
       exact hil _ x) id (hnF gM l2) (Nat.le_trans hw.nV l2) (Nat.le_trans hw.nW l2')
   have hle:Le B (fun b b' => (B b b' ∨ (b=gS ∧ b'=gS')) ∨ (b=gM ∧ b'=gM')):=fun _ _ h => .inl (.inl h)
   refine Ends.ran r (hsub _ hsb _ w'.tape w'.drawn gs' w' sl' t' q' _ cs'' hw2 ((hc.mono hle).finish (tw_rel (V:=V) hw.flt l1 l2 (.inl (.inr ⟨rfl,rfl⟩)) (.inr ⟨rfl,rfl⟩))) (hcs.mono hle) (hbot _) ?_ g0 gL gP)
   refine ⟨fun x y h hf => ?_,Nat.le_trans hkp.size hsz,fun x hx => (hkept x (Nat.lt_of_lt_of_le hx hkp.size)).trans (hkp.old x hx),htape.trans hkp.tape,⟨hos.trans hkp.os.1,hout.trans hkp.os.2⟩⟩
   rcases h with (h | ⟨_,rfl⟩) | ⟨_,rfl⟩
   · exact hkp.low x y h hf
   · exact Nat.le_trans hkp.size l1'
   · exact Nat.le_trans hkp.size l2'
end
end Go.Proofs.YtokbalggdhippaaGreat
end
