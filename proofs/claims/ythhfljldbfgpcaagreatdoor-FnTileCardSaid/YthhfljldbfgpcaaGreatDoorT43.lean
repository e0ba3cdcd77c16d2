/- Merged texts: MaM, MaN, DuF, MaO, MaP. -/
import Derived.Test.YthhfljldbfgpcaaGreatDoorT42
import Derived.Test.YthhfljldbfgpcaaGreatDoorT41
set_option linter.all false
section
namespace Go.Proofs.YthhfljldbfgpcaaGreatDoor
open Go.RowKit Go.Conc Go.Proofs.YthhfljldbfgpcaaGreatDoor.Co Go.Proofs.YthhfljldbfgpcaaGreatDoor.Ok Go.Proofs.YthhfljldbfgpcaaGreatDoor.Lr Go.Proofs.YthhfljldbfgpcaaGreatDoor.Tl Go.Proofs.YthhfljldbfgpcaaGreatDoor.Bar
theorem flat_flo {X:Cx} {xs:List Nat}:∀ v ∈ ((xs.map floV).toArray:Array Value),Flat X v:=by
 intro v hv
 rw [List.mem_toArray,List.mem_map] at hv
 obtain ⟨x,_,rfl⟩:=hv
 exact fun B => .float _ _
theorem flat_int {X:Cx} {xs:List Int}:∀ v ∈ ((xs.map intV).toArray:Array Value),Flat X v:=by
 intro v hv
 rw [List.mem_toArray,List.mem_map] at hv
 obtain ⟨x,_,rfl⟩:=hv
 exact fun B => .int _ _
theorem finish12 {b':Frame} {a':Act} {k':List Item} {v:Value}:(b'.at a' (.inRegion ops12 [0,1] :: k')).finish v=b'.at (a'.put (some 55) v) (.inRegion ops12 [1] :: k'):=by
 obtain ⟨o,ho,_,hd,_⟩:=op12_0
 rw [← hd,Frame.finish_at,ho]
 rfl
theorem MA.puts {rb ob:Nat} {ch v x:Value} {a:Act} (h:MA rb ob ch a):MA rb ob ch ((a.put (some 55) v).put (some 56) x):=by
 obtain ⟨h1,h2,h3,h4,h5,h6⟩:=h
 refine ⟨?_,?_,?_,?_,?_,h6⟩
 · rw [put_size,put_size]; exact h1
 all_goals rw [put_get (by decide),put_get (by decide)]
 · exact h2
 · exact h3
 · exact h4
 · exact h5
theorem after_recv {p c m0:Nat} {F:Nat → Prop} {B:Lk} {V W:World} {a a':Act} {b':Frame} {k':List Item} {base:List Frame} {Post:(Nat → Prop) → Frame → List Frame → World → Prop} {vV vW:Value} {y:Bool}
   (h:MS p c m0 F B V W a a' b' sRecv k') (hs:a.tmps.size=71) (hv:VR (Xs p F) B vV vW)
   (k:∀ (τ:Tape) (d:Nat) (W2:World),W.heap.size ≤ W2.heap.size → MS p c m0 F B { V with tape:=τ,drawn:=d } W2 ((a.put (some 55) (.tuple #[vV,.bool y])).put (some 56) (.bool y)) ((a'.put (some 55) (.tuple #[vW,.bool y])).put (some 56) (.bool y)) b' sRecv k' →
     Co Tryz.prog true base (Ice (Xs p F) B) Post (Hot (Xs p F) B) (b'.at ((a'.put (some 55) (.tuple #[vW,.bool y])).put (some 56) (.bool y)) k') [] W2) :
   Co Tryz.prog true base (Ice (Xs p F) B) Post (Hot (Xs p F) B) ((b'.at a' (.inRegion ops12 [0,1] :: k')).finish (.tuple #[vW,.bool y])) [] W:=by
 obtain ⟨hk,hfn,har,hds,htd⟩:=h.kind
 have hke:b'.kind ≠ .early:=by rw [hk]; simp [bM,Go.Conc.base]
 have hs':a'.tmps.size=71:=by rw [← har.1]; exact hs
 obtain ⟨o,ho,hop,hd,hg⟩:=op12_1
 rw [finish12]
 have l0:∀ b,Hot (Xs p F) B b → b < W.heap.size:=WH.hot ⟨V,rfl,h.wr⟩
 refine Co.val ho hg hke (yields_extract (ev_self (by omega)) hop) l0 fun W1 r1 => ?_
 rw [hd]
 refine Co.regionEnd (lt_rely l0 r1) fun W2 r2 => ?_
 have r:=rely_trans r1 r2
 refine k W2.tape W2.drawn W2 r.1 ⟨wr_rely h.wr r,fr_build (ar_put (ar_put har _ (.tuple (p:=#[vV,.bool y]) (p':=#[vW,.bool y]) rfl fun i v v' h1 h2 => ?_)) _ (.bool y)) hds htd hk hfn,h.pc,h.low⟩
 match i with
 | 0 => cases h1; cases h2; exact hv
 | 1 => cases h1; cases h2; exact .bool y
 | i + 2 => cases h1
set_option maxHeartbeats 1000000 in
theorem recv_next {p c m0 cx cy d n N i:Nat} {xs:List Nat} {ys:List Int} {st:Nat → Nat → Int} {sm:Nat → Nat → Nat} {R L Lb R':Nat → Prop} {fr:Frame} {cs base:List Frame} {W1 Wb w:World} {v:Value} (hn:n ≤ 8) (hN:N + n ≤ n * n)
   (hP:RecvP p c m0 cx cy d n N xs ys R L fr cs W1) (hr:Rely L R W1 w) (row:RowIs n st sm i v R' Wb) (hrb:Rely Lb R Wb w) (hsub:∀ x,R' x → Lb x) (hdb:∀ x,Lb x → ¬ L x ∧ ¬ R x ∧ x ≠ c ∧ m0 ≤ x) (hNm:Vp.prog.globals.size ≤ m0) (hmw:m0 ≤ w.heap.size) :
   cs=[] ∧ Co Tryz.prog true base (fun x => R x ∨ R' x) (fun L fr cs W => Stops Tryz.prog true base c (.recv zRow) fr cs ∧ RecvP p c m0 cx cy d n (N + n) (xs ++ (List.range n).map (sm i)) (ys ++ (List.range n).map (st i)) (fun x => R x ∨ R' x) L fr cs W) L (fr.finish (.tuple #[v,.bool true])) [] w:=by
 obtain ⟨F,B,V0,ww0,a,a',b',k',rb,ob,gS,gM,rfl,rfl,hMS,hMA,hTX,rfl,rfl⟩:=hP
 refine ⟨rfl,?_⟩
 have hMS:=hMS.rely hr
 have hTX:TX { ww0 with tape:=w.tape,drawn:=w.drawn } rb ob cx cy d n (n * n) N N gS gM xs ys { V0 with tape:=w.tape,drawn:=w.drawn }:=tx_blind hTX _ _
 generalize ({ V0 with tape:=w.tape,drawn:=w.drawn }:World)=V at hMS hTX
 generalize ({ ww0 with tape:=w.tape,drawn:=w.drawn }:World)=ww at hTX
 obtain ⟨sb,mb,f,g,rfl,hne,hR',hs,hm⟩:=row
 have rs:R' sb:=(hR' sb).2 (.inl rfl)
 have rm:R' mb:=(hR' mb).2 (.inr rfl)
 have hs:=(hrb.2.1 sb (.inl (hsub _ rs))).trans hs
 have hm:=(hrb.2.1 mb (.inl (hsub _ rm))).trans hm
 have hw:=hMS.wr
 have unl:∀ s,R' s → ∀ b,¬ B b s:=by
   intro s hs b hb
   have:=hdb s (hsub s hs)
   by_cases hd:b=p
   · subst hd; exact this.2.2.1 (hw.fn _ _ _ hb hMS.pc)
   by_cases hf:F b
   · exact this.2.1 ⟨b,hb,hd,hf⟩
   · exact this.1 ⟨b,hb,hd,hf⟩
 have l1:=wr_link (alike_s p F fun b => F b ∨ b=V.heap.size) hw (unl sb rs) hs flat_flo (Nat.le_trans hNm (hdb _ (hsub _ rs)).2.2.2) (fun _ => .rfl)
 have unl2:∀ b,¬ ((fun b b' => B b b' ∨ (b=V.heap.size ∧ b'=sb)) b mb):=by
   rintro b (hb | ⟨_,hb⟩)
   · exact unl mb rm b hb
   · exact hne hb.symm
 have l2:=wr_link (alike_s p _ fun b => (F b ∨ b=V.heap.size) ∨ b=V.heap.size + 1) l1 unl2 hm flat_int (Nat.le_trans hNm (hdb _ (hsub _ rm)).2.2.2) (fun b => by rw [Array.size_push]; exact .rfl)
 generalize hB2:(fun b b' => (B b b' ∨ (b=V.heap.size ∧ b'=sb)) ∨ (b=({ V with heap:=V.heap.push (.cells (((List.range n).map (sm i)).map floV).toArray 42 (0,(((List.range n).map (sm i)).map floV).toArray.size)) }:World).heap.size ∧ b'=mb):Lk)=B2 at l2
 have l3:=l2
 clear l2
 have hB2:∀ x y,B2 x y ↔ (B x y ∨ (x=V.heap.size ∧ y=sb)) ∨ (x=V.heap.size + 1 ∧ y=mb):=fun x y => by
   rw [← hB2,Array.size_push]
 have hle:Le B B2:=fun x y h => (hB2 x y).2 (.inl (.inl h))
 have hpV:p < V.heap.size:=hw.dlt p rfl
 have eH:Hot (Xs p fun b => (F b ∨ b=V.heap.size) ∨ b=V.heap.size + 1) B2=Hot (Xs p F) B:=by
   funext x
   apply propext
   constructor
   · rintro ⟨b,h1,h2,h3⟩
     rcases (hB2 b x).1 h1 with (h | ⟨rfl,_⟩) | ⟨rfl,_⟩
     · exact ⟨b,h,h2,fun f => h3 (.inl (.inl f))⟩
     · exact absurd (.inl (.inr rfl)) h3
     · exact absurd (.inr rfl) h3
   · rintro ⟨b,h1,h2,h3⟩
     have:=hw.ltV h1
     refine ⟨b,hle _ _ h1,h2,?_⟩
     rintro ((h | rfl) | rfl)
     · exact h3 h
     · omega
     · omega
 have eI:Ice (Xs p fun b => (F b ∨ b=V.heap.size) ∨ b=V.heap.size + 1) B2=fun x => Ice (Xs p F) B x ∨ R' x:=by
   funext x
   apply propext
   constructor
   · rintro ⟨b,h1,h2,h3⟩
     rcases (hB2 b x).1 h1 with (h | ⟨_,rfl⟩) | ⟨_,rfl⟩
     · have:=hw.ltV h
       rcases h3 with (h3 | rfl) | rfl
       · exact .inl ⟨b,h,h2,h3⟩
       · omega
       · omega
     · exact .inr rs
     · exact .inr rm
   · rintro (⟨b,h1,h2,h3⟩ | h)
     · exact ⟨b,hle _ _ h1,h2,.inl (.inl h3)⟩
     · rcases (hR' x).1 h with rfl | rfl
       · exact ⟨V.heap.size,(hB2 _ _).2 (.inl (.inr ⟨rfl,rfl⟩)),fun e => by have e:V.heap.size=p:=e; omega,.inl (.inr rfl)⟩
       · exact ⟨V.heap.size + 1,(hB2 _ _).2 (.inr ⟨rfl,rfl⟩),fun e => by have e:V.heap.size + 1=p:=e; omega,.inr rfl⟩
 rw [← eI,← eH]
 have hMS2:MS p c m0 (fun b => (F b ∨ b=V.heap.size) ∨ b=V.heap.size + 1) B2 _ w a a' b' sRecv k' :=
   ⟨l3,(hMS.fr.mono hle).cx (alike_s p F _),hle _ _ hMS.pc,fun x y hxy => by
     rcases (hB2 x y).1 hxy with (h | ⟨_,rfl⟩) | ⟨_,rfl⟩
     · exact hMS.low _ _ h
     · exact (hdb _ (hsub _ rs)).2.2.2
     · exact (hdb _ (hsub _ rm)).2.2.2⟩
 have hTX2:TX ww rb ob cx cy d n (n * n) N N gS gM xs ys ((V.alloc (.cells (((List.range n).map (sm i)).map floV).toArray 42 (0,(((List.range n).map (sm i)).map floV).toArray.size))).alloc (.cells (((List.range n).map (st i)).map intV).toArray 3 (0,(((List.range n).map (st i)).map intV).toArray.size))):=(hTX.alloc _).alloc _
 have hob:ob < V.heap.size:=(Array.getElem?_eq_some_iff.1 hTX.O.blk).1
 have hgS:gS < V.heap.size:=(hTX.S.lt gS rfl).2
 have hgM:gM < V.heap.size:=(hTX.M.lt gM rfl).2
 refine after_recv (vV:=.agg #[.slice (some ⟨V.heap.size,0,none⟩) n n,.slice (some ⟨V.heap.size + 1,0,none⟩) n n]) hMS2 hMA.size (.agg rfl fun j v v' h1 h2 => ?_) fun τ k W2 hsz hM => ?_
 · match j with
   | 0 => cases h1; cases h2; exact .slice _ _ ⟨⟨(hB2 _ _).2 (.inl (.inr ⟨rfl,rfl⟩)),fun e => by have e:V.heap.size=p:=e; omega⟩,⟨rfl,Nat.zero_le _⟩,rfl⟩
   | 1 => cases h1; cases h2; exact .slice _ _ ⟨⟨(hB2 _ _).2 (.inr ⟨rfl,rfl⟩),fun e => by have e:V.heap.size + 1=p:=e; omega⟩,⟨rfl,Nat.zero_le _⟩,rfl⟩
   | j + 2 => cases h1
 · refine stretchM (ww:=ww) (rb:=rb) (ob:=ob) (gS:=gS) (gM:=gM) hM (Nat.le_trans hmw hsz) fun τ' k' => ?_
   refine hm_next (sb:=V.heap.size) (mb:=V.heap.size + 1) (fz:=(0,(((List.range n).map (sm i)).map floV).toArray.size)) (fu:=(0,(((List.range n).map (st i)).map intV).toArray.size)) hn hN hMA.puts ?_ ?_ (tx_blind hTX2 τ' k') (by simp) (by simp) ?_ ?_ ⟨by omega,by omega⟩ ⟨by omega,by omega,by omega⟩
   · rw [put_get (by decide)]
     exact Array.getElem?_setIfInBounds_self_of_lt (by rw [hMA.size]; decide)
   · exact Array.getElem?_setIfInBounds_self_of_lt (by rw [put_size,hMA.size]; decide)
   · show ((V.heap.push _).push _)[V.heap.size]?=_
     rw [Array.getElem?_push,if_neg (by rw [Array.size_push]; omega),Array.getElem?_push,if_pos rfl]
   · show ((V.heap.push _).push _)[V.heap.size + 1]?=_
     rw [Array.getElem?_push,if_pos (by rw [Array.size_push])]
end Go.Proofs.YthhfljldbfgpcaaGreatDoor
end

section
namespace Go.Proofs.YthhfljldbfgpcaaGreatDoor
open Go.RowKit Go.Conc Go.Proofs.YthhfljldbfgpcaaGreatDoor.Co Go.Proofs.YthhfljldbfgpcaaGreatDoor.Ok Go.Proofs.YthhfljldbfgpcaaGreatDoor.Lr Go.Proofs.YthhfljldbfgpcaaGreatDoor.Tl Go.Proofs.YthhfljldbfgpcaaGreatDoor.Bar
theorem results_tile {t:Array Value} {V:World} {rb:Nat} {v0 v1 v2 v3 v4 x:Value} (h8:t[8]?=some (.pointer (some ⟨rb,0,none⟩))) (h9:t[9]?=some x)
   (h:V.cell? ⟨rb,0,none⟩=some v0 ∧ V.cell? ⟨rb,1,none⟩=some v1 ∧ V.cell? ⟨rb,2,none⟩=some v2 ∧ V.cell? ⟨rb,3,none⟩=some v3 ∧ V.cell? ⟨rb,4,none⟩=some v4):(results Vp.fT t).run Vp.prog V=.ok (.tuple #[.agg #[v0,v1,v2,v3,v4],x]) V:=by
 obtain ⟨c0,c1,c2,c3,c4⟩:=h
 have hr:Vp.fT.results=#[.cell 8 29,.tmp 9]:=by rw [Vp.resultsT]; rfl
 unfold results
 rw [hr]
 simp [go_sem,loadVar,Array.getD_eq_getD_getElem?,h8,h9,c0,c1,c2,c3,c4]
def TileQ (cx cy d n:Nat) (good:Bool) (xs:List Nat) (ys:List Int) (v:Value) (V:World):Prop :=
 if good then ∃ gS gM,v=.tuple #[.agg (tileC cx cy d n (.slice (some ⟨gS,0,none⟩) (n * n) (n * n)) (.slice (some ⟨gM,0,none⟩) (n * n) (n * n))),.bool true] ∧ V.heap[gS]?=some (.cells (xs.map floV).toArray 42 (0,0)) ∧ V.heap[gM]?=some (.cells (ys.map intV).toArray 3 (0,0))
 else v=.tuple #[.agg (tileC 0 0 0 0 (.slice none 0 0) (.slice none 0 0)),.bool false]
theorem leaving_ret {cx cy d n:Nat} {good:Bool} {xs:List Nat} {ys:List Int} {w V:World} {t:List Item} {a:Act} (h:HRet cx cy d n good xs ys w t a V) :
   ∃ v,Frame.leaving Vp.prog { bM.at a t with mode:=.returning } V (.returned v) ∧ TileQ cx cy d n good xs ys v V:=by
 obtain ⟨rb,rest,_,hd,h8,h9,_,h⟩:=h
 cases good with
 | false =>
   rw [if_neg (by simp)] at h
   exact ⟨_,⟨rfl,hd,rfl,Vp.fT,Vp.funcT,results_tile h8 h9 h.cells5⟩,rfl⟩
 | true =>
   rw [if_pos rfl] at h
   obtain ⟨gS,gM,hb,hS,hM⟩:=h
   exact ⟨_,⟨rfl,hd,rfl,Vp.fT,Vp.funcT,results_tile h8 h9 hb.cells5⟩,gS,gM,rfl,own_full hS,own_full hM⟩
theorem hret_blind {cx cy d n:Nat} {good:Bool} {xs:List Nat} {ys:List Int} {w V:World} {t:List Item} {a:Act} (h:HRet cx cy d n good xs ys w t a V) (τ:Tape) (k:Nat):HRet cx cy d n good xs ys { w with tape:=τ,drawn:=k } t a { V with tape:=τ,drawn:=k }:=by
 obtain ⟨rb,rest,h1,hd,h8,h9,h10,h⟩:=h
 refine ⟨rb,rest,h1,hd,h8,h9,h10,?_⟩
 cases good with
 | false =>
   rw [if_neg (by simp)] at h ⊢
   exact box_blind h τ k
 | true =>
   rw [if_pos rfl] at h ⊢
   obtain ⟨gS,gM,hb,hS,hM⟩:=h
   exact ⟨gS,gM,box_blind hb τ k,hS,hM⟩
theorem last_ret {p cx cy d n:Nat} {good:Bool} {xs:List Nat} {ys:List Int} {F:Nat → Prop} {B:Lk} {V W:World} {fr:Frame} {a:Act} {s:List Item} {base:List Frame} (hw:WR (Xs p F) B V W) (hf:FrR (Xs p F) B (bM.at a s) fr)
   (hh:∀ τ k,∃ ww:World,HW Vp.prog s (HRet cx cy d n good xs ys ww) a { V with tape:=τ,drawn:=k }) :
   Co Tryz.prog true base (Ice (Xs p F) B) (PostR (Xs p F) V.heap.size W.heap.size B (Fin Vp.prog (TileQ cx cy d n good xs ys))) (Hot (Xs p F) B) fr [] W:=by
 refine (co_of_hw (m:=true) (base:=base) (whole_s p F) cx_noT (H:=fun t a V => ∃ ww,HRet cx cy d n good xs ys ww t a V) (fun t a V τ k ⟨w,h⟩ => ⟨_,hret_blind h τ k⟩) hw hf fun τ k => by
     obtain ⟨ww,h⟩:=hh τ k
     exact h.mono fun t a V x => ⟨ww,x⟩).bind ?_
 rintro L fr1 cs W1 ⟨B1,x,τ,k,hg,⟨hxc,t,a1,hxf,ww,hH⟩,hw1,hf1,hc,rfl,hn1,hm1⟩
 rw [hxc] at hc
 rw [hxf] at hf1
 cases hc
 obtain ⟨rb,rest,et,_⟩:=id hH
 have hH2:=hret_blind hH τ k
 obtain ⟨e1,har,hds,htd,hk,hfn⟩:=fr_parts hf1
 obtain ⟨k',etd,hk'⟩:∃ k',fr1.todo=.code .ret :: k' ∧ TdR (Xs p F) B1 rest k':=by
   rw [et] at htd
   generalize fr1.todo=q at htd
   cases htd with
   | cons hi hk =>
     cases hi with
     | code hc =>
       have hc:=hc
       exact ⟨_,by rw [show _=Code.ret from hc],hk⟩
 rw [etd] at e1
 rw [e1]
 have hIce:=ice_gr hw hg
 have l0:=WH.hot (X:=Xs p F) (B:=B1) ⟨(x.at τ k).V,rfl,hw1⟩
 refine Co.ctl (fr1:={ fr1.at ⟨fr1.tmps,fr1.defers⟩ (.code .ret :: k') with mode:=.returning }) (cs1:=[]) l0 (fun _ => stepG_ret') fun W2 hr2 => .stop ?_
 rw [← hIce] at hr2
 obtain ⟨v,hv,hq⟩:=leaving_ret hH
 refine ⟨B1,⟨{ bM.at a1 t with mode:=.returning },[],x.V⟩,W2.tape,W2.drawn,hg,⟨rfl,v,hv,hq⟩,wr_rely (V:=(x.at τ k).V) hw1 hr2,?_,.nil,rfl,hn1,Nat.le_trans hm1 hr2.1⟩
 have:=hf1.withMode .returning
 rw [e1] at this
 exact this
end Go.Proofs.YthhfljldbfgpcaaGreatDoor
end

section
namespace Go.Proofs.YthhfljldbfgpcaaGreatDoor.Co
open Go.Conc Go.Proofs.YthhfljldbfgpcaaGreatDoor.Tl Go.Proofs.YthhfljldbfgpcaaGreatDoor.Lr Go.Proofs.YthhfljldbfgpcaaGreatDoor.Bar
theorem main_step {P:Program} {gs:Array Goroutine} {w w1:World} {sl:Option (Nat × Nat)} {t:Trace} {q:Nat → Nat} {fr fr1:Frame} {cs cs1:List Frame} {n:Array Event} {L L1 R:Nat → Prop}
   (h0:gs[0]?=some (G fr cs)) (hst:stepG P true (G fr cs) w=.go (G fr1 cs1) w1 n) (hdid:Did L R w L1 w1 n) (hR:∀ b,R b → b < w.heap.size) (hL:Leavers P t gs q) (hP:Past (fun _ => False) w.heap.size t) :
   ∃ gs' ops,runT P (crowd gs w sl) 0=(.next (crowd gs' w1 sl),ops) ∧ gs'.size=gs.size ∧ gs'[0]?=some (G fr1 cs1) ∧ Leavers P (t ++ ops) gs' q ∧ Past (fun _ => False) w1.heap.size (t ++ ops):=by
 have hrunT:=runT_crowd_go (P:=P) (sl:=sl) (i:=0) h0 (show stepG P (0 == 0) (G fr cs) w=_ from hst)
 have hlt:0 < gs.size:=(Array.getElem?_eq_some_iff.1 h0).1
 refine ⟨_,_,hrunT,by simp,Array.getElem?_setIfInBounds_self_of_lt (by simpa using hlt),⟨fun j x hj hx => ?_,fun j hj => ?_⟩,(hP.mono hdid.size).own fun e he => evC_evL (hdid.evs e he) hdid.lt fun b hb => Nat.lt_of_lt_of_le (hR b hb) hdid.size⟩
 · have hne:0 ≠ j:=by omega
   rw [Array.getElem?_setIfInBounds_ne hne,Array.getElem?_map] at hx
   obtain ⟨y,hy,rfl⟩:=Option.map_eq_some_iff.1 hx
   have hq:=hL.old j y hj hy
   rw [woken_quitsD hq,Deaf_other t (by omega) _ (fun op hop => by obtain ⟨e,_,rfl⟩:=Go.Conc.mem_ofEvents hop; rfl)]
   exact hq
 · rw [Deaf_other t (g':=0) (by simp at hj; omega) _ (fun op hop => by obtain ⟨e,_,rfl⟩:=Go.Conc.mem_ofEvents hop; rfl)]
   exact hL.above j (by simpa using hj)
end Go.Proofs.YthhfljldbfgpcaaGreatDoor.Co
end

section
namespace Go.Proofs.YthhfljldbfgpcaaGreatDoor
open Go.RowKit Go.Conc Go.Proofs.YthhfljldbfgpcaaGreatDoor.Co Go.Proofs.YthhfljldbfgpcaaGreatDoor.Ok Go.Proofs.YthhfljldbfgpcaaGreatDoor.Lr Go.Proofs.YthhfljldbfgpcaaGreatDoor.Tl Go.Proofs.YthhfljldbfgpcaaGreatDoor.Bar
def rowsOf {α:Type} (n:Nat) (f:Nat → Nat → α) (i:Nat):List α:=(List.range i).flatMap fun j => (List.range n).map (f j)
theorem rowsOf_succ {α:Type} (n:Nat) (f:Nat → Nat → α) (i:Nat):rowsOf n f (i + 1)=rowsOf n f i ++ (List.range n).map (f i):=by
 unfold rowsOf
 rw [List.range_succ,List.flatMap_append]
 simp
structure Both (p c m0 b cx cy d n:Nat) (st:Nat → Nat → Int) (sm:Nat → Nat → Nat) (w0:World) (base:List Frame) (i k:Nat) (gs:Array Goroutine) (w:World) (t:Trace) (q:Nat → Nat) (La Lb R:Nat → Prop) (fra frb:Frame) (csa csb:List Frame) (Wa Wb:World):Prop where
 A:Co Tryz.prog true base R (fun L fr cs W => Stops Tryz.prog true base c (.recv zRow) fr cs ∧ RecvP p c m0 cx cy d n (i * n) (rowsOf n sm i) (rowsOf n st i) R L fr cs W) La fra csa Wa
 S:SendS c n st sm k Lb R frb csb Wb
 sit:Sit Tryz.prog c 0 b m0 w0 gs w t q La Lb R
 ga:gs[0]?=some (G fra (csa ++ base))
 gb:gs[b]?=some (G frb (csb ++ []))
 ra:Rely La R Wa w
 rb:Rely Lb R Wb w
theorem rows_loop {p c m0 b cx cy d n:Nat} {st:Nat → Nat → Int} {sm:Nat → Nat → Nat} {w0:World} {base:List Frame} (hn:n ≤ 8) (hNm:Vp.prog.globals.size ≤ m0):∀ (k i:Nat),i + k=n → ∀ {gs:Array Goroutine} {w:World} {sl:Option (Nat × Nat)} {t:Trace} {q:Nat → Nat} {La Lb R:Nat → Prop} {fra frb:Frame} {csa csb:List Frame} {Wa Wb:World},
   Both p c m0 b cx cy d n st sm w0 base i k gs w t q La Lb R fra frb csa csb Wa Wb →
   ∃ gs' w' sl' t' q' La' Lb' R' fra' frb' csa' csb' Wa' Wb',Ran Tryz.prog gs w sl t gs' w' sl' t' ∧ gs'.size=gs.size ∧ Both p c m0 b cx cy d n st sm w0 base n 0 gs' w' t' q' La' Lb' R' fra' frb' csa' csb' Wa' Wb'
 | 0,i,hi,gs,w,sl,t,q,La,Lb,R,fra,frb,csa,csb,Wa,Wb,h => by
   obtain rfl:i=n:=by omega
   exact ⟨gs,w,sl,t,q,La,Lb,R,fra,frb,csa,csb,Wa,Wb,.refl,rfl,h⟩
 | k + 1,i,hi,gs,w,sl,t,q,La,Lb,R,fra,frb,csa,csb,Wa,Wb,h => by
   have hbz:(b == 0)=false:=by have:=h.sit.ne; simp; omega
   have hS:=h.S
   unfold SendS at hS
   obtain ⟨gs1,w1,sl1,t1,q1,La1,fra1,csa1,Wa1,Lb1,frb1,csb1,Wb1,v,m1,m2,m3,m4,m5,m6,m7,m8,m9⟩:=meet (a:=0) (b:=b) (baseb:=[]) (z:=zRow)
     (KA:=fun L fr cs W => RecvP p c m0 cx cy d n (i * n) (rowsOf n sm i) (rowsOf n st i) R L fr cs W)
     (KB:=fun v L fr cs W => ∃ R',RowIs n st sm (n - (k + 1)) v R' W ∧ (∀ x,R' x → L x) ∧ ∀ W2,Rely (fun x => L x ∧ ¬ R' x) (fun x => R x ∨ R' x) W W2 → SendS c n st sm k (fun x => L x ∧ ¬ R' x) (fun x => R x ∨ R' x) (fr.finish undef) cs W2)
     h.A (by rw [hbz]; exact hS.mono fun L fr cs W ⟨v,z,x,y⟩ => ⟨v,z,x,y⟩) (sl:=sl) h.sit h.ga h.gb h.ra h.rb
   obtain ⟨R',hrow,hsub,hnext⟩:=m8
   have s0:=m9 (fun _ => False) fun x hx => hx.elim
   have s1:=m9 R' hsub
   have hii:n - (k + 1)=i:=by omega
   rw [hii] at hrow
   have hle:(i + 1) * n ≤ n * n:=Nat.mul_le_mul_right n (by omega)
   obtain ⟨rfl,hA⟩:=recv_next (base:=base) hn (by rw [Nat.succ_mul] at hle; exact hle) m7 m5 hrow m6 hsub (fun x hx => by
     obtain ⟨g1,g2,g3,_⟩:=s0.db x ⟨hx,id⟩
     exact ⟨g1,fun y => g2 (.inl y),g3,s0.low x (.inr (.inl ⟨hx,id⟩))⟩) hNm s0.kept.1
   rw [← rowsOf_succ,← rowsOf_succ,← Nat.succ_mul] at hA
   have hrel:Rely (fun x => Lb1 x ∧ ¬ R' x) (fun x => R x ∨ R' x) Wb1 w1:=⟨m6.1,fun x hx => m6.2.1 x (by
     rcases hx with hx | hx | hx
     · exact .inl hx.1
     · exact .inr hx
     · exact .inl (hsub x hx)),m6.2.2⟩
   obtain ⟨gs',w',sl',t',q',La',Lb',R2,fra',frb',csa',csb',Wa',Wb',n1,n2,n3⟩:=rows_loop hn hNm k (i + 1) (by omega) (sl:=sl1)
     (⟨hA,hnext w1 hrel,s1,m3,m4,rely_refl _ _ _,rely_refl _ _ _⟩:Both p c m0 b cx cy d n st sm w0 base (i + 1) k gs1 w1 t1 q1 La1 (fun x => Lb1 x ∧ ¬ R' x) (fun x => R x ∨ R' x) _ _ [] csb1 w1 w1)
   exact ⟨gs',w',sl',t',q',La',Lb',R2,fra',frb',csa',csb',Wa',Wb',m1.trans n1,n2.trans m2,n3⟩
end Go.Proofs.YthhfljldbfgpcaaGreatDoor
end

section
namespace Go.Proofs.YthhfljldbfgpcaaGreatDoor
open Go.ConcN (sumTo)
open Go.RowKit Go.Conc Go.Proofs.YthhfljldbfgpcaaGreatDoor.Co Go.Proofs.YthhfljldbfgpcaaGreatDoor.Ok Go.Proofs.YthhfljldbfgpcaaGreatDoor.Lr Go.Proofs.YthhfljldbfgpcaaGreatDoor.Tl Go.Proofs.YthhfljldbfgpcaaGreatDoor.Bar
theorem postR_weaken {X:Cx} {n m m':Nat} {B0:Lk} {F:St → Prop} {L:Nat → Prop} {fr:Frame} {cs:List Frame} {W:World} (h:PostR X n m' B0 F L fr cs W) (hm:m ≤ m'):PostR X n m B0 F L fr cs W:=by
 obtain ⟨B,x,τ,d,h1,h2,h3,h4,h5,h6,h7,h8⟩:=h
 exact ⟨B,x,τ,d,⟨h1.1,fun b b' h => (h1.2 b b' h).imp id fun y => ⟨y.1,Nat.le_trans hm y.2⟩⟩,h2,h3,h4,h5,h6,h7,Nat.le_trans hm h8⟩
def TileW (cx cy d n:Nat) (xs:List Nat) (ys:List Int) (m0:Nat) (v:Value) (W:World):Prop :=
 ∃ gS gM,v=.tuple #[.agg (tileC cx cy d n (.slice (some ⟨gS,0,none⟩) (n * n) (n * n)) (.slice (some ⟨gM,0,none⟩) (n * n) (n * n))),.bool true] ∧ m0 ≤ gS ∧ m0 ≤ gM ∧ gS ≠ gM ∧ W.heap[gS]?=some (.cells (xs.map floV).toArray 42 (0,0)) ∧ W.heap[gM]?=some (.cells (ys.map intV).toArray 3 (0,0))
theorem slice_inv {X:Cx} {B:Lk} {g l k:Nat} {v:Value} (h:VR X B (.slice (some ⟨g,0,none⟩) l k) v):∃ g',B g g' ∧ ¬ X.D g ∧ v=.slice (some ⟨g',0,none⟩) l k:=by
 cases h with
 | @slice _ ad _ _ h =>
   obtain ⟨⟨h1,h2⟩,⟨h3,_⟩,h4⟩:=h
   obtain ⟨x,y,z⟩:=ad
   dsimp only at h1 h3 h4
   subst h3 h4
   exact ⟨x,h1,h2,rfl⟩
theorem tileW_of {p m0 cx cy d n:Nat} {F:Nat → Prop} {xs:List Nat} {ys:List Int} {B:Lk} {V W:World} {v v':Value} (hq:TileQ cx cy d n true xs ys v V) (hv:VR (Xs p F) B v v') (hw:WR (Xs p F) B V W) (hl:∀ x y,B x y → m0 ≤ y) (hx:0 < xs.length) (hy:0 < ys.length):TileW cx cy d n xs ys m0 v' W:=by
 unfold TileQ at hq
 rw [if_pos rfl] at hq
 obtain ⟨gS,gM,rfl,hS,hM⟩:=hq
 cases hv with
 | @tuple _ q hs hi =>
   obtain ⟨q0,h0⟩:∃ q0,q[0]?=some q0:=⟨_,Array.getElem?_eq_getElem (by rw [← hs]; simp)⟩
   obtain ⟨q1,h1⟩:∃ q1,q[1]?=some q1:=⟨_,Array.getElem?_eq_getElem (by rw [← hs]; simp)⟩
   have hq:q=#[q0,q1]:=by
     apply Array.ext_getElem?
     intro i
     match i with
     | 0 => exact h0
     | 1 => exact h1
     | i + 2 => rw [Array.getElem?_eq_none (by rw [← hs]; simp)]; rfl
   have r1:=hi 1 _ _ rfl h1
   cases r1
   have r0:=hi 0 _ _ rfl h0
   subst hq
   clear hi h0 h1
   cases r0 with
   | @agg _ u hs' hi =>
     have z:∀ i,i < 5 → ∃ x,u[i]?=some x:=fun i h => ⟨_,Array.getElem?_eq_getElem (by rw [← hs']; exact h)⟩
     obtain ⟨u0,z0⟩:=z 0 (by decide)
     obtain ⟨u1,z1⟩:=z 1 (by decide)
     obtain ⟨u2,z2⟩:=z 2 (by decide)
     obtain ⟨u3,z3⟩:=z 3 (by decide)
     obtain ⟨u4,z4⟩:=z 4 (by decide)
     have hu:u=#[u0,u1,u2,u3,u4]:=by
       apply Array.ext_getElem?
       intro i
       match i with
       | 0 => exact z0
       | 1 => exact z1
       | 2 => exact z2
       | 3 => exact z3
       | 4 => exact z4
       | i + 5 => rw [Array.getElem?_eq_none (by rw [← hs']; simp [tileC])]; rfl
     have y0:=hi 0 _ _ rfl z0
     have y1:=hi 1 _ _ rfl z1
     have y2:=hi 2 _ _ rfl z2
     obtain ⟨gS',b1,d1,rfl⟩:=slice_inv (hi 3 _ _ rfl z3)
     obtain ⟨gM',b2,d2,rfl⟩:=slice_inv (hi 4 _ _ rfl z4)
     cases y0
     cases y1
     cases y2
     subst hu
     obtain ⟨_,C1,w1,a1⟩:=wr_cells hw b1 d1 hS (by simpa using hx)
     obtain ⟨_,C2,w2,a2⟩:=wr_cells hw b2 d2 hM (by simpa using hy)
     have e1:=ar_flat a1 (fun v hv => by
       rw [List.mem_toArray,List.mem_map] at hv
       obtain ⟨x,_,rfl⟩:=hv
       exact .inl ⟨x,rfl⟩)
     have e2:=ar_flat a2 (fun v hv => by
       rw [List.mem_toArray,List.mem_map] at hv
       obtain ⟨x,_,rfl⟩:=hv
       exact .inr ⟨x,rfl⟩)
     subst e1 e2
     refine ⟨gS',gM',rfl,hl _ _ b1,hl _ _ b2,fun e => ?_,w1,w2⟩
     subst e
     rw [w1] at w2
     injection w2 with w2
     injection w2 with _ w2
     cases w2
end Go.Proofs.YthhfljldbfgpcaaGreatDoor
end
