import Derived.Orders
import Derived.OrdersHeld
import Derived.Test.YtlfleicchbgcmaaGreatZq5
import Derived.Calls
import Derived.Deep.RegionLaw
import Derived.Deep.DeepAppendRoom
import Derived.Test.YtlfleicchbgcmaaGreatZq0
import Derived.Test.YtlfleicchbgcmaaGreatZqK
set_option linter.all false
set_option maxHeartbeats 16000000
set_option maxRecDepth 100000
namespace Go.Proofs.YtlfleicchbgcmaaGreat
section
open Go.RowKit
theorem Vi (l:Array Bool)(i j:Nat)(d:Bool)(hi:i<l.size):(l.setIfInBounds i true).getD j d=if j=i then true else l.getD j d:=by
 simp only[Aio]
 by_cases h:j=i
 ·subst h;rw[Aij rfl,Aic hi]
  rfl
 ·rw[Aid h,Ai4 (fun e=>h e.symm)]
theorem Ml {md:Region.Mode}{ops:Array Oper}{l:Array Bool}(hsz:l.size=ops.size)(hac:∀(i:Nat) (o:Oper),ops[i]?=some o->∀e∈o.after,e.on<i)(hr:Region.ready md ops l=[]) :
 ∀n i,i<n->i<ops.size->l.getD i false=true
 | 0,i,h,_=>absurd h (by omega)
 | n+1,i,h,hi=>by
   by_cases hin:i<n
   ·exact Ml hsz hac hr n i hin hi
   ·obtain rfl:i=n:=by omega
    cases hl:l.getD i false with
    | true=>rfl
    | false =>
      exfalso
      have ho:ops[i]?=some ops[i]:=Ai8 hi
      have hm:i∈Region.ready md ops l:=by
       refine mem_ready.2 ⟨?_,_,ho,fun e he _=>?_⟩
       ·rw[Aio,Ai8 (by omega)]at hl ⊢
        exact hl
       ·have hlt:=hac i _ ho e he
        exact Ml hsz hac hr i e.on hlt (by omega)
      rw[hr]at hm
      cases hm
def unl (n:Nat)(l:Array Bool):Nat:=((List.range n).filter (fun i=>!l.getD i true)).length
theorem A61 {n:Nat}{l:Array Bool}(hsz:l.size=n){i:Nat}(hi:i<n)(hl:l.getD i true=false):unl n (l.setIfInBounds i true)<unl n l:=by
 unfold unl
 have e:((List.range n).filter (fun j=>!(l.setIfInBounds i true).getD j true))=((List.range n).filter (fun j=>!l.getD j true)).filter (fun j=>decide (j≠i)):=by
  rw[List.filter_filter]
  refine List.filter_congr fun j _=>?_
  rw[Vi l i j true (by omega)]
  by_cases h:j=i
  ·subst h;simp
  ·simp[h]
 rw[e]
 have hm:i∈(List.range n).filter (fun j=>!l.getD j true):=by
  rw[List.mem_filter]
  exact⟨Amo.2 hi,by rw[hl];rfl⟩
 have hlt:=List.length_filter_lt_length_iff_exists (p:=fun j=>decide (j≠i)) (l:=(List.range n).filter (fun j=>!l.getD j true))
 exact hlt.2 ⟨i,hm,by simp⟩
theorem X2 {P:Program}{md:Region.Mode}{ops:Array Oper}{Q:Exit->Act->World->Prop}(Inv:(Nat->Bool)->Act->World->Prop)(hac:∀(i:Nat) (o:Oper),ops[i]?=some o->∀e∈o.after,e.on<i)
 (hstep:∀D a w,Inv D a w->∀(i:Nat) (o:Oper),ops[i]?=some o->D i=false ->(∀e∈o.after,Region.binds md e=true->D e.on=true) ->
  if Region.wanted o (yielded ops a.tmps)=true then o.wp P a w (fun a' w'=>Inv (fun j=>if j=i then true else D j) a' w') Q else Inv (fun j=>if j=i then true else D j) (a.put o.dst undef) w)
 (hend:∀D a w,Inv D a w ->(∀i,i<ops.size->D i=true)->Q .normal a w) :
 ∀(fuel:Nat) (l:Array Bool) (a:Act) (w:World),l.size=ops.size->Inv (fun j=>l.getD j false) a w->unl ops.size l<=fuel->wpAny P md ops Q fuel l a w
 | 0,l,a,w,hsz,hI,hf=>by
   have hall:∀i,i<ops.size->l.getD i true=true:=by
    intro i hi
    cases h:l.getD i true with
    | true=>rfl
    | false =>
      have:=A61 hsz hi h
      omega
   refine⟨List.eq_nil_iff_forall_not_mem.2 fun j hj=>?_,hend _ a w hI fun i hi=>?_⟩
   ·obtain⟨h0,o,ho,_⟩:=mem_ready.1 hj;have hj2:=(Ai2.1 ho).1;rw[hall j hj2]at h0
    cases h0
   ·have:=hall i hi;rw[Aio,Ai8 (by omega)]at this ⊢
    exact this
 | fuel+1,l,a,w,hsz,hI,hf=>by
   refine⟨fun hr=>hend _ a w hI fun i hi=>Ml hsz hac hr (i+1) i (by omega) hi,fun i hi=>?_⟩
   obtain⟨h0,o,ho,hall⟩:=mem_ready.1 hi;have hilt:=(Ai2.1 ho).1
   have h1:l.getD i false=false:=by
    rw[Aio,Ai8 (by omega)]at h0 ⊢
    exact h0
   have hs:=hstep _ a w hI i o ho h1 hall
   have hfun:(fun j=>if j=i then true else l.getD j false)=fun j=>(l.setIfInBounds i true).getD j false:=by
    funext j
    rw[Vi l i j false (by omega)]
   rw[hfun]at hs;have hlt:=A61 hsz hilt h0;have hnext:∀a' w',Inv (fun j=>(l.setIfInBounds i true).getD j false) a' w'->wpAny P md ops Q fuel (l.setIfInBounds i true) a' w':=fun a' w' h=>X2 Inv hac hstep hend fuel _ a' w' (by rw[Array.size_setIfInBounds];exact hsz) h (by omega)
   unfold wpOp;rw[ho];simp only
   split
   ·rename_i hw
    rw[Aij hw]at hs
    exact .inl (Oper.wp_mono hnext hs)
   ·rename_i hw
    rw[Aid hw]at hs
    exact hnext _ _ hs
theorem Uq {P:Program}{ops:Array Oper}{Q:Exit->Act->World->Prop}{id:Nat}{a:Act}{w:World}(hm:P.follows .mixedOrders=true)(Inv:(Nat->Bool)->Act->World->Prop)(hac:∀(i:Nat) (o:Oper),ops[i]?=some o->∀e∈o.after,e.on<i)
 (h0:Inv (fun _=>false) a { w with drawn:=w.drawn+1 })
 (hstep:∀D a w,Inv D a w->∀(i:Nat) (o:Oper),ops[i]?=some o->D i=false ->(∀e∈o.after,Region.binds .any e=true->D e.on=true) ->
  if Region.wanted o (yielded ops a.tmps)=true then o.wp P a w (fun a' w'=>Inv (fun j=>if j=i then true else D j) a' w') Q else Inv (fun j=>if j=i then true else D j) (a.put o.dst undef) w)
 (hend:∀D a w,Inv D a w ->(∀i,i<ops.size->D i=true)->Q .normal a w):(Code.region id ops true).wp P Q a w:=by
 refine wp_region_any hm (X2 Inv hac hstep hend _ _ _ _ (by simp) ?_ ?_)
 ·have e:(fun j=>(Array.replicate ops.size false).getD j false)=fun _=>false:=by
   funext j
   rw[Aio,Array.getElem?_replicate]
   split<;>rfl
  rw[e]
  exact h0
 ·unfold unl
  refine Ai5 (List.length_filter_le _ _) ?_
  rw[List.length_range]
  exact Ai3 _
end
section
open Go.RowKit
theorem I9 {P:Program}{o:Oper}{a:Act}{w:World}{K:Act->World->Prop}{Q:Exit->Act->World->Prop}(h:∀K':Act->World->Prop,(∀a' w',K a' w'->K' a' w')->o.wp P a w K' Q):o.wp P a w K Q:=h K (fun _ _ h=>h)
theorem A67 {ops:Array Oper}(h:(List.range ops.size).all (fun i=>((ops[i]?).map (fun o=>o.after.all fun e=>decide (e.on<i))).getD true)=true):∀(i:Nat) (o:Oper),ops[i]?=some o->∀e∈o.after,e.on<i:=by
 intro i o ho e he;have hi:=(Ai2.1 ho).1;have h1:=Alo.1 h i (Amo.2 hi);rw[ho]at h1;simp only[Akw,Option.getD_some]at h1;have h2:=Aiz.1 h1 e he
 simpa using h2
def z4:Array Value:=#[.int .i64 0,.int .i64 0,.int .i64 0,.int .i64 0]
def up1 (D:Nat->Bool)(i:Nat):Nat->Bool:=fun j=>if j=i then true else D j
theorem Jw {D:Nat->Bool}{i j:Nat}(h:j≠i):up1 D i j=D j:=Aid h
theorem A2a {D:Nat->Bool}{i:Nat}:up1 D i i=true:=Aij rfl
structure K8 (w:World)(CA CB:Array Value)(D:Nat->Bool)(u:Nat->Value)(W:World):Prop where
 X:A8 w w.heap.size CA 93 W
 Y:A8 w (w.heap.size+1) CB 93 W
 Z:A8 w (w.heap.size+1+1) z4 93 W
 f0:D 0=true->u 0=.agg CA
 f1:D 1=true->u 1=.agg CA
 f2:D 2=true->u 2=.agg CB
 f3:D 3=true->u 3=.agg CB
 f4:D 4=true->∃sb,u 4=.pointer (some ⟨sb,0,none⟩)/\w.heap.size+1+1<sb/\A8 w sb (if D 6=true then CA else z4) 158 W
 f5:D 5=true->∃tb,u 5=.pointer (some ⟨tb,0,none⟩)/\w.heap.size+1+1<tb/\A8 w tb (if D 7=true then CB else z4) 158 W
 ne:D 4=true->D 5=true->u 4≠u 5
 s6:D 6=true->D 4=true
 s7:D 7=true->D 5=true
section
variable {w : World} {CA CB : Array Value} {D : Nat -> Bool} {u : Nat -> Value} {W W' : World}
theorem K8.val (h:K8 w CA CB D u W){i:Nat}(hi:i<4){v:Value}(k:Below W.heap.size W W')(hv:v=if i<2 then .agg CA else .agg CB):K8 w CA CB (up1 D i) (fun j=>if j=i then v else u j) W':=by
 have e:∀j,4<=j->up1 D i j=D j:=fun j hj=>Jw (by omega)
 have eu:∀j,4<=j ->(if j=i then v else u j)=u j:=fun j hj=>Aid (by omega)
 refine⟨h.X.step k,h.Y.step k,h.Z.step k,fun g=>?_,fun g=>?_,fun g=>?_,fun g=>?_,fun g=>?_,fun g=>?_,fun g g'=>?_,fun g=>(e 4 (by omega)).trans (h.s6 ((e 6 (by omega)).symm.trans g)),fun g=>(e 5 (by omega)).trans (h.s7 ((e 7 (by omega)).symm.trans g))⟩
 ·by_cases x:0=i
  ·subst x;simpa using hv
  ·show(if 0=i then v else u 0)=_
   rw[Aid x];exact h.f0 ((Jw x).symm.trans g)
 ·by_cases x:1=i
  ·subst x;simpa using hv
  ·show(if 1=i then v else u 1)=_
   rw[Aid x];exact h.f1 ((Jw x).symm.trans g)
 ·by_cases x:2=i
  ·subst x;simpa using hv
  ·show(if 2=i then v else u 2)=_
   rw[Aid x];exact h.f2 ((Jw x).symm.trans g)
 ·by_cases x:3=i
  ·subst x;simpa using hv
  ·show(if 3=i then v else u 3)=_
   rw[Aid x];exact h.f3 ((Jw x).symm.trans g)
 ·rw[e 4 (by omega)]at g
  show ∃sb,(if 4=i then v else u 4)=_/\_
  rw[e 6 (by omega),eu 4 (by omega)]
  obtain⟨sb,h1,h2,h3⟩:=h.f4 g
  exact⟨sb,h1,h2,h3.step k⟩
 ·rw[e 5 (by omega)]at g
  show ∃sb,(if 5=i then v else u 5)=_/\_
  rw[e 7 (by omega),eu 5 (by omega)]
  obtain⟨sb,h1,h2,h3⟩:=h.f5 g
  exact⟨sb,h1,h2,h3.step k⟩
 ·rw[e 4 (by omega)]at g
  rw[e 5 (by omega)]at g'
  show(if 4=i then v else u 4) ≠(if 5=i then v else u 5)
  rw[eu 4 (by omega),eu 5 (by omega)]
  exact h.ne g g'
theorem K8.Ah8 (h:K8 w CA CB D u W)(h4:D 4=false):K8 w CA CB (up1 D 4) (fun j=>if j=4 then .pointer (some ⟨W.heap.size,0,none⟩)else u j) (W.alloc (.cells z4 158)):=by
 have k:Below W.heap.size W (W.alloc (.cells z4 158)):=(Aik _ _).alloc (Ai3 _) _
 have h6:D 6=false:=by
  cases x:D 6
  ·rfl
  ·rw[h.s6 x]at h4;cases h4
 refine⟨h.X.step k,h.Y.step k,h.Z.step k,fun g=>h.f0 g,fun g=>h.f1 g,fun g=>h.f2 g,fun g=>h.f3 g,fun _=>⟨W.heap.size,rfl,h.Z.lt,?_⟩,fun g=>?_,fun _ g' e=>?_,fun _=>rfl,fun g=>h.s7 g⟩
 ·rw[show up1 D 4 6=D 6 from Jw (by omega),h6,Aid (by simp)]
  exact(A8.new W z4 158).up h.Z.old
 ·obtain⟨sb,h1,h2,h3⟩:=h.f5 g
  exact⟨sb,h1,h2,h3.step k⟩
 ·obtain⟨sb,h1,h2,h3⟩:=h.f5 g';have e:Value.pointer (some ⟨W.heap.size,0,none⟩)=u 5:=e;rw[h1]at e;injection e with e
  injection e with e
  injection e with e
  exact Akh _ (e▸h3.lt)
theorem K8.Ah9 (h:K8 w CA CB D u W)(h5:D 5=false):K8 w CA CB (up1 D 5) (fun j=>if j=5 then .pointer (some ⟨W.heap.size,0,none⟩)else u j) (W.alloc (.cells z4 158)):=by
 have k:Below W.heap.size W (W.alloc (.cells z4 158)):=(Aik _ _).alloc (Ai3 _) _
 have h7:D 7=false:=by
  cases x:D 7
  ·rfl
  ·rw[h.s7 x]at h5;cases h5
 refine⟨h.X.step k,h.Y.step k,h.Z.step k,fun g=>h.f0 g,fun g=>h.f1 g,fun g=>h.f2 g,fun g=>h.f3 g,fun g=>?_,fun _=>⟨W.heap.size,rfl,h.Z.lt,?_⟩,fun g' _ e=>?_,fun g=>h.s6 g,fun _=>rfl⟩
 ·obtain⟨sb,h1,h2,h3⟩:=h.f4 g
  exact⟨sb,h1,h2,h3.step k⟩
 ·rw[show up1 D 5 7=D 7 from Jw (by omega),h7,Aid (by simp)]
  exact(A8.new W z4 158).up h.Z.old
 ·obtain⟨sb,h1,h2,h3⟩:=h.f4 g';have e:u 4=Value.pointer (some ⟨W.heap.size,0,none⟩):=e;rw[h1]at e;injection e with e
  injection e with e
  injection e with e
  exact Akh _ (e▸h3.lt)
end
theorem A8.A07 {w0 W:World}{b:Nat}{v0 v1 v2 v3:Value}{T:TypeId}(h:A8 w0 b #[v0,v1,v2,v3] T W)(hb:w0.heap.size<=b)(u0 u1 u2 u3:Value) :
 A8 w0 b #[u0,u1,u2,u3] T ((((W.setCell ⟨b,0,none⟩ u0).setCell ⟨b,1,none⟩ u1).setCell ⟨b,2,none⟩ u2).setCell ⟨b,3,none⟩ u3) :=
 (((h.set hb 0 u0).set hb 1 u1).set hb 2 u2).set hb 3 u3
section
variable {w : World} {a b c d : Value} {CA CB : Array Value} {D : Nat -> Bool} {u : Nat -> Value} {W W' : World}
theorem K8.st6 (h:K8 w #[a,b,c,d] CB D u W){sb:Nat}(e4:u 4=.pointer (some ⟨sb,0,none⟩))(h4:D 4=true):K8 w #[a,b,c,d] CB (up1 D 6) u ((((W.setCell ⟨sb,0,none⟩ a).setCell ⟨sb,1,none⟩ b).setCell ⟨sb,2,none⟩ c).setCell ⟨sb,3,none⟩ d):=by
 obtain⟨sb',e,hl,S⟩:=h.f4 h4;rw[e4]at e;injection e with e;injection e with e;injection e with e
 subst e;have hs:w.heap.size<=sb:=by omega
 refine⟨h.X.G7 hs (by omega) _ _ _ _,h.Y.G7 hs (by omega) _ _ _ _,h.Z.G7 hs (by omega) _ _ _ _,h.f0,h.f1,h.f2,h.f3,fun _=>⟨sb,e4,hl,?_⟩,fun g=>?_,h.ne,fun _=>h4,h.s7⟩
 ·rw[A2a,Aij rfl]
  cases hd:D 6<;>rw[hd]at S
  ·rw[Aid (by simp)]at S;exact S.A07 hs _ _ _ _
  ·rw[Aij rfl]at S;exact S.A07 hs _ _ _ _
 ·obtain⟨tb,e5,hl5,T⟩:=h.f5 g
  refine⟨tb,e5,hl5,?_⟩
  rw[show up1 D 6 7=D 7 from Jw (by omega)]
  exact T.G7 hs (fun x=>h.ne h4 g (by rw[e4,e5,x])) _ _ _ _
theorem K8.st7 (h:K8 w CA #[a,b,c,d] D u W){sb:Nat}(e4:u 5=.pointer (some ⟨sb,0,none⟩))(h4:D 5=true):K8 w CA #[a,b,c,d] (up1 D 7) u ((((W.setCell ⟨sb,0,none⟩ a).setCell ⟨sb,1,none⟩ b).setCell ⟨sb,2,none⟩ c).setCell ⟨sb,3,none⟩ d):=by
 obtain⟨sb',e,hl,S⟩:=h.f5 h4;rw[e4]at e;injection e with e;injection e with e;injection e with e
 subst e;have hs:w.heap.size<=sb:=by omega
 refine⟨h.X.G7 hs (by omega) _ _ _ _,h.Y.G7 hs (by omega) _ _ _ _,h.Z.G7 hs (by omega) _ _ _ _,h.f0,h.f1,h.f2,h.f3,fun g=>?_,fun _=>⟨sb,e4,hl,?_⟩,h.ne,h.s6,fun _=>h4⟩
 ·obtain⟨tb,e5,hl5,T⟩:=h.f4 g
  refine⟨tb,e5,hl5,?_⟩
  rw[show up1 D 7 6=D 6 from Jw (by omega)]
  exact T.G7 hs (fun x=>h.ne g h4 (by rw[e4,e5,x])) _ _ _ _
 ·rw[A2a,Aij rfl]
  cases hd:D 7<;>rw[hd]at S
  ·rw[Aid (by simp)]at S;exact S.A07 hs _ _ _ _
  ·rw[Aij rfl]at S;exact S.A07 hs _ _ _ _
end
theorem A36 (a b c d a' b' c' d':Int)(hv:Bg a b c d=true)(hv2:Bg a' b' c' d'=true)(w:World) :
 Calls Vp.prog 131 #[.agg #[.int .i64 a,.int .i64 b,.int .i64 c,.int .i64 d],.agg #[.int .i64 a',.int .i64 b',.int .i64 c',.int .i64 d']] w fun e w'=>e=.returned (Fg ⟨a+a',b+b',c+c',d+d'⟩)/\Below w.heap.size w w':=by
 obtain⟨X,Y,Z⟩:=Tm w #[.int .i64 a,.int .i64 b,.int .i64 c,.int .i64 d] 93 #[.int .i64 a',.int .i64 b',.int .i64 c',.int .i64 d'] 93 #[.int .i64 0,.int .i64 0,.int .i64 0,.int .i64 0] 93;obtain⟨b1,b2,b3,b4,b5,b6⟩:=Bx.bd (x:=⟨a,b,c,d⟩) hv;obtain⟨g1,g2,g3,g4,g5,g6⟩:=Bx.bd (x:=⟨a',b',c',d'⟩) hv2;dsimp only at b1 b2 b3 b4 b5 b6 g1 g2 g3 g4 g5 g6;have HV:=Ai1 (Eh a b c d);have HV2:=Ai1 (Eh a' b' c' d');rw[hv]at HV;rw[hv2]at HV2;have HSA:=Ai1 (F9 a b c d);have HSB:=Ai1 (F9 a' b' c' d');have HP1:=Ai1 (Hc a b a' b' (by omega) (by omega) (by omega) (by omega) (by omega) (by omega) (by omega) (by omega))
 have HP2:=Ai1 (Hc c d c' d' (by omega) (by omega) (by omega) (by omega) (by omega) (by omega) (by omega) (by omega))
 generalize a+a'=S1 at *;generalize b+b'=S2 at *;generalize c+c'=S3 at *;generalize d+d'=S4 at *;have HD:=Ai1 (Ta S1 S2 S3 S4);obtain⟨o1,o2,o3,o4,o5,hx⟩:=Jk ⟨S1,S2,S3,S4⟩;rw[hx]at HD;rw[hx];clear hx hv hv2 b1 b2 b3 b4 b5 b6 g1 g2 g3 g4 g5 g6;have x0:=X.cell 0 _ rfl;have x1:=X.cell 1 _ rfl;have x2:=X.cell 2 _ rfl;have x3:=X.cell 3 _ rfl
 go_enter Vp.func131,Tryz.ntmps131
 go_wp2_with fail
 refine(HV.out _).mono ?_
 rintro e w1 ⟨rfl,hb⟩;clear x0 x1 x2 x3;replace X:=X.step hb;replace Y:=Y.step hb;replace Z:=Z.step hb;clear hb;have y0:=Y.cell 0 _ rfl;have y1:=Y.cell 1 _ rfl;have y2:=Y.cell 2 _ rfl;have y3:=Y.cell 3 _ rfl
 go_wp2_with fail
 refine(HV2.out _).mono ?_
 rintro e w2 ⟨rfl,hb⟩;clear y0 y1 y2 y3;replace X:=X.step hb;replace Y:=Y.step hb;replace Z:=Z.step hb;clear hb
 go_upto_region 3 with fail
 go_cut [6,7]from 17 to 20 (fun p q wx=>∃sb tb:Nat,p=.pointer (some ⟨sb,0,none⟩)/\q=.pointer (some ⟨tb,0,none⟩)/\Hid (A8 w sb #[.int .i64 a,.int .i64 b,.int .i64 c,.int .i64 d] 158 wx/\A8 w tb #[.int .i64 a',.int .i64 b',.int .i64 c',.int .i64 d'] 158 wx/\A8 w (w.heap.size+1+1) #[.int .i64 0,.int .i64 0,.int .i64 0,.int .i64 0] 93 wx/\w.heap.size+1+1<sb/\w.heap.size+1+1<tb))
 case first =>
  have h0:K8 w #[.int .i64 a,.int .i64 b,.int .i64 c,.int .i64 d] #[.int .i64 a',.int .i64 b',.int .i64 c',.int .i64 d'] (fun _=>false) (fun _=>undef) { w2 with drawn:=w2.drawn+1 } :=
   have k:Below w2.heap.size w2 { w2 with drawn:=w2.drawn+1 }:=(Aq.refl w2).drew.below _
   ⟨X.step k,Y.step k,Z.step k,fun h=>by(cases h),fun h=>by(cases h),fun h=>by(cases h),fun h=>by(cases h),fun h=>by(cases h),fun h=>by(cases h),fun h=>by(cases h),fun h=>by(cases h),fun h=>by(cases h)⟩
  clear X Y Z
  refine Uq (by kernel_rfl) (fun D a0 W=>∃u:Nat->Value,a0=⟨((Value.agg #[.int .i64 a,.int .i64 b,.int .i64 c,.int .i64 d]) ::(Value.agg #[.int .i64 a',.int .i64 b',.int .i64 c',.int .i64 d']) ::(Value.pointer (some ⟨w.heap.size,0,none⟩)) ::(Value.pointer (some ⟨w.heap.size+1,0,none⟩)) ::(Value.pointer (some ⟨w.heap.size+1+1,0,none⟩)) ::(Value.bool false) ::(u 4) ::(u 5) ::(Value.agg #[.int .i64 a,.int .i64 b,.int .i64 c,.int .i64 d]) ::(Value.bool true) ::(Value.bool false) ::(Value.bool false) ::(Value.agg #[.int .i64 a',.int .i64 b',.int .i64 c',.int .i64 d']) ::(Value.bool true) ::(Value.bool false) ::(Value.bool false) :: undef ::(u 0) ::(u 1) ::(u 2) ::(u 3) :: undef :: undef :: undef :: undef :: undef :: undef :: undef :: undef :: undef :: undef :: undef :: undef :: undef :: undef :: []).toArray,[]⟩/\K8 w #[.int .i64 a,.int .i64 b,.int .i64 c,.int .i64 d] #[.int .i64 a',.int .i64 b',.int .i64 c',.int .i64 d'] D u W) (A67 (by kernel_rfl)) ⟨fun _=>undef,rfl,h0⟩ ?_ ?_
  ·rintro D a0 W ⟨u,rfl,I⟩ i o ho hD hdep;have hi:i<8:=(Ai2.1 ho).1;have HI:=Ai1 I;have x0:=I.X.cell 0 _ rfl;have x1:=I.X.cell 1 _ rfl;have x2:=I.X.cell 2 _ rfl;have x3:=I.X.cell 3 _ rfl;have y0:=I.Y.cell 0 _ rfl;have y1:=I.Y.cell 1 _ rfl;have y2:=I.Y.cell 2 _ rfl;have y3:=I.Y.cell 3 _ rfl;clear I
   rcases(by omega:i=0\/i=1\/i=2\/i=3\/i=4\/i=5\/i=6\/i=7)with rfl|rfl|rfl|rfl|rfl|rfl|rfl|rfl
   ·simp only[Akd,Ak5,Ajj]at ho;subst ho;rw[Aij (by rfl)]
    refine I9 fun K hKK=>?_
    clear hD hdep
    go_simp
    exact hKK _ _ ⟨fun j=>if j=0 then(.agg #[.int .i64 a,.int .i64 b,.int .i64 c,.int .i64 d])else u j,rfl,HI.out.val (by omega) (Aik _ _) rfl⟩
   ·simp only[Akd,Ak5,Aki,Ajj]at ho;subst ho;have d0:D 0=true:=hdep ⟨0,.data⟩ (by simp) rfl
    have e0:=HI.out.f0 d0;rw[Aij (by rfl)]
    refine I9 fun K hKK=>?_
    clear hD hdep
    go_simp
    refine(HSA.out _).mono ?_
    rintro e w' ⟨rfl,hb⟩
    exact hKK _ _ ⟨fun j=>if j=1 then(.agg #[.int .i64 a,.int .i64 b,.int .i64 c,.int .i64 d])else u j,by simp only[e0];rfl,HI.out.val (by omega) hb rfl⟩
   ·simp only[Akd,Ak5,Aki,Ajj]at ho;subst ho;rw[Aij (by rfl)]
    refine I9 fun K hKK=>?_
    clear hD hdep
    go_simp
    exact hKK _ _ ⟨fun j=>if j=2 then(.agg #[.int .i64 a',.int .i64 b',.int .i64 c',.int .i64 d'])else u j,rfl,HI.out.val (by omega) (Aik _ _) rfl⟩
   ·simp only[Akd,Ak5,Aki,Ajj]at ho;subst ho;have d2:D 2=true:=hdep ⟨2,.data⟩ (by simp) rfl
    have e2:=HI.out.f2 d2;rw[Aij (by rfl)]
    refine I9 fun K hKK=>?_
    clear hD hdep
    go_simp
    refine(HSB.out _).mono ?_
    rintro e w' ⟨rfl,hb⟩
    exact hKK _ _ ⟨fun j=>if j=3 then(.agg #[.int .i64 a',.int .i64 b',.int .i64 c',.int .i64 d'])else u j,by simp only[e2];rfl,HI.out.val (by omega) hb rfl⟩
   ·simp only[Akd,Ak5,Aki,Ajj]at ho;subst ho;rw[Aij (by rfl)]
    refine I9 fun K hKK=>?_
    have HK:=Ai1 hKK;clear hKK hdep;have HhD:=Ai1 hD;clear hD
    go_simp
    exact HK.out _ _ ⟨fun j=>if j=4 then .pointer (some ⟨W.heap.size,0,none⟩)else u j,rfl,HI.out.Ah8 HhD.out⟩
   ·simp only[Akd,Ak5,Aki,Ajj]at ho;subst ho;rw[Aij (by rfl)]
    refine I9 fun K hKK=>?_
    have HK:=Ai1 hKK;clear hKK hdep;have HhD:=Ai1 hD;clear hD
    go_simp
    exact HK.out _ _ ⟨fun j=>if j=5 then .pointer (some ⟨W.heap.size,0,none⟩)else u j,rfl,HI.out.Ah9 HhD.out⟩
   ·simp only[Akd,Ak5,Aki,Ajj]at ho;subst ho;rw[Aij (by rfl)]
    have d4:D 4=true:=hdep ⟨4,.data⟩ (by simp) rfl
    have d1:D 1=true:=hdep ⟨1,.data⟩ (by simp) rfl
    have e1:=HI.out.f1 d1;obtain⟨sb,e4,hl,S⟩:=HI.out.f4 d4;rw[hD,Aid (by simp)]at S
    have c0:=S.cell 0 _ rfl;have c1:=S.cell 1 _ rfl;have c2:=S.cell 2 _ rfl;have c3:=S.cell 3 _ rfl;have f0:=S.frozen 0;have f1:=S.frozen 1;have f2:=S.frozen 2;have f3:=S.frozen 3;clear S
    refine I9 fun K hKK=>?_
    have HK:=Ai1 hKK;clear hKK hD hdep
    go_simp
    refine HK.out _ _ ⟨u,?_,HI.out.st6 e4 d4⟩
    simp only[e1,e4]
   ·simp only[Akd,Ak5,Aki,Ajj]at ho;subst ho;rw[Aij (by rfl)]
    have d4:D 5=true:=hdep ⟨5,.data⟩ (by simp) rfl
    have d1:D 3=true:=hdep ⟨3,.data⟩ (by simp) rfl
    have e1:=HI.out.f3 d1;obtain⟨sb,e4,hl,S⟩:=HI.out.f5 d4;rw[hD,Aid (by simp)]at S
    have c0:=S.cell 0 _ rfl;have c1:=S.cell 1 _ rfl;have c2:=S.cell 2 _ rfl;have c3:=S.cell 3 _ rfl;have f0:=S.frozen 0;have f1:=S.frozen 1;have f2:=S.frozen 2;have f3:=S.frozen 3;clear S
    refine I9 fun K hKK=>?_
    have HK:=Ai1 hKK;clear hKK hD hdep
    go_simp
    refine HK.out _ _ ⟨u,?_,HI.out.st7 e4 d4⟩
    simp only[e1,e4]
  ·rintro D a0 W ⟨u,rfl,I⟩ hall;obtain⟨sb,e4,h4,S⟩:=I.f4 (hall 4 (by decide))
   obtain⟨tb,e5,h5,T⟩:=I.f5 (hall 5 (by decide))
   rw[hall 6 (by decide),Aij rfl]at S
   rw[hall 7 (by decide),Aij rfl]at T
   have HF:=Ai1 (And.intro S (And.intro T (And.intro I.Z (And.intro h4 h5))));clear S T I hall
   go_wp2_with fail
   go_meet
   exact⟨sb,tb,e4,e5,HF.out⟩
 case rest =>
  obtain⟨sb,tb,rfl,rfl,HCC⟩:=hcut;clear X Y Z HV HV2 HSA HSB;obtain⟨S,T,Z,hsb,htb⟩:=HCC.out;clear HCC
  go_upto_region 4 with fail
  have HSk:Hid (∀W',Below wc.drew.heap.size wc.drew W'->A8 w sb #[.int .i64 a,.int .i64 b,.int .i64 c,.int .i64 d] 158 W'):=fun W' h=>(S.step ((Aq.refl _).drew.below _)).step h
  have HTk:Hid (∀W',Below wc.drew.heap.size wc.drew W'->A8 w tb #[.int .i64 a',.int .i64 b',.int .i64 c',.int .i64 d'] 158 W'):=fun W' h=>(T.step ((Aq.refl _).drew.below _)).step h
  have HZk:Hid (∀W',Below wc.drew.heap.size wc.drew W'->A8 w (w.heap.size+1+1) #[.int .i64 0,.int .i64 0,.int .i64 0,.int .i64 0] 93 W'):=fun W' h=>(Z.step ((Aq.refl _).drew.below _)).step h
  have HSs:=Ai1 (fun W' h u0 u1 u2 u3=>(HSk.out W' h).G7 (b':=w.heap.size+1+1) (by omega) (by omega) u0 u1 u2 u3)
  have HTs:=Ai1 (fun W' h u0 u1 u2 u3=>(HTk.out W' h).G7 (b':=w.heap.size+1+1) (by omega) (by omega) u0 u1 u2 u3)
  have hbk:=Aik wc.drew.heap.size wc.drew;clear S T Z
  go_region_held3 (fun w'=>w'.cell? ⟨sb,0,none⟩=some (.int .i64 a)/\w'.cell? ⟨sb,1,none⟩=some (.int .i64 b)/\w'.cell? ⟨sb,2,none⟩=some (.int .i64 c)/\w'.cell? ⟨sb,3,none⟩=some (.int .i64 d)/\w'.cell? ⟨tb,0,none⟩=some (.int .i64 a')/\w'.cell? ⟨tb,1,none⟩=some (.int .i64 b')/\w'.cell? ⟨tb,2,none⟩=some (.int .i64 c')/\w'.cell? ⟨tb,3,none⟩=some (.int .i64 d')) (((first|dsimp only|skip);first |(with_reducible exact⟨(HSk.out _ hbk).cell 0 _ rfl,(HSk.out _ hbk).cell 1 _ rfl,(HSk.out _ hbk).cell 2 _ rfl,(HSk.out _ hbk).cell 3 _ rfl,(HTk.out _ hbk).cell 0 _ rfl,(HTk.out _ hbk).cell 1 _ rfl,(HTk.out _ hbk).cell 2 _ rfl,(HTk.out _ hbk).cell 3 _ rfl⟩) |(with_reducible exact⟨(HSs.out _ hbk _ _ _ _).cell 0 _ rfl,(HSs.out _ hbk _ _ _ _).cell 1 _ rfl,(HSs.out _ hbk _ _ _ _).cell 2 _ rfl,(HSs.out _ hbk _ _ _ _).cell 3 _ rfl,(HTs.out _ hbk _ _ _ _).cell 0 _ rfl,(HTs.out _ hbk _ _ _ _).cell 1 _ rfl,(HTs.out _ hbk _ _ _ _).cell 2 _ rfl,(HTs.out _ hbk _ _ _ _).cell 3 _ rfl⟩))) (first
   |(go_at_call 107;(first |(with_reducible refine(HP1.out _).mono ?_) |(with_reducible refine(HP2.out _).mono ?_));rintro e w' ⟨rfl,hb⟩;replace hbk:=hbk.trans (hb.mono hbk.size);clear hb)
   |(go_at_call 127;(with_reducible refine(HD.out _).mono ?_);rintro e w' ⟨rfl,hb⟩;replace hbk:=hbk.trans (hb.mono hbk.size);clear hb;have z0:=(HZk.out _ hbk).cell 0 _ rfl;have z1:=(HZk.out _ hbk).cell 1 _ rfl;have z2:=(HZk.out _ hbk).cell 2 _ rfl;have z3:=(HZk.out _ hbk).cell 3 _ rfl;have g0:=(HZk.out _ hbk).frozen 0;have g1:=(HZk.out _ hbk).frozen 1;have g2:=(HZk.out _ hbk).frozen 2;have g3:=(HZk.out _ hbk).frozen 3))
  all_goals
   go_wp2
   exact Ai6 (v:=.tuple #[.agg #[.int .i64 o1,.int .i64 o2,.int .i64 o3,.int .i64 o4],.bool o5]) (by simp[results,Tryz.f131,go_sem,z0,z1,z2,z3]) rfl ⟨rfl,A1p (HZk.out _ hbk).old (b:=w.heap.size+1+1) (by omega) _ _ _ _⟩
end
section
open Go.RowKit
attribute [local go_sem ↓] Go.wp_at_zero Go.wp_at_succ
theorem Kl (x d:Nat)(n N:Int)(hd:d<=11)(hx:Flo.Pt x d n)(hn:n.natAbs<=65536)(hN:N=n *(2^(24-d):Nat))(h2:¬N<=134217728)(w:World) :
 Calls Vp.prog 92 #[.float .f32 x] w fun e w'=>e=.returned (.tuple #[.int .i64 0,.int .i64 0,.bool false])/\w=w':=by
 obtain⟨y1,y,e1,e2,hv,e3⟩:=Flo.O6 hd hx hn;rw[<-hN]at hv e3
 have hNb:N.natAbs<=1099511627776:=by
  rw[hN,Ais,Aih];have h1:(2:Nat)^(24-d)<=2^24:=Ain (by omega) (by omega)
  exact Ajm hn h1
 obtain⟨b1,b2,b3,b4⟩:=Flo.Q1 hNb hv;rw[Aip (show -134217728<=N by omega)]at b1
 rw[Aj0 h2]at b2;have g1:=fun w=>Ajy (P:=Vp.prog) w 74 129 .f32 .f64 _ _ (by kernel_rfl) (Vp.Di Tryz.underlying129) e1
 have g2:=fun w=>Aj6 (P:=Vp.prog) w .mul 129 .f64 _ _ _ e2
 clear e1 e2 e3 hv hx hn hN hNb h2 hd b3 b4
 go_enter Vp.func92,Tryz.ntmps92
 go_wp2
 go_ret3
 exact⟨rfl,rfl⟩
def ofV (A B:Int):Value:=if A<=134217728/\B<=134217728 then .tuple #[.agg #[.int .i64 A,.int .i64 A,.int .i64 B,.int .i64 B],.bool true]else .tuple #[.agg #[.int .i64 0,.int .i64 0,.int .i64 0,.int .i64 0],.bool false]
theorem A6b (x y d:Nat)(a b A B:Int)(hd:d<=11)(hx:Flo.Pt x d a)(hy:Flo.Pt y d b)(ha:a.natAbs<=65536)(hb:b.natAbs<=65536)(hA:A=a *(2^(24-d):Nat))(hB:B=b *(2^(24-d):Nat))
 (h1:-134217728<=A) (h3:-134217728<=B) (w:World) :
 Calls Vp.prog 67 #[.complex .f32 x y] w fun e w'=>e=.returned (ofV A B)/\Below w.heap.size w w':=by
 by_cases h2:A<=134217728
 ·by_cases h4:B<=134217728
  ·unfold ofV;rw[Aij ⟨h2,h4⟩]
   exact A6c x y d a b A B hd hx hy ha hb hA hB h1 h2 h3 h4 w
  ·have HV:Hid (ofV A B=.tuple #[.agg #[.int .i64 0,.int .i64 0,.int .i64 0,.int .i64 0],.bool false]):=by
    show _=_;unfold ofV;rw[Aid (fun h=>h4 h.2)]
   rw[HV.out];have X:=A8.new w #[.int .i64 0,.int .i64 0,.int .i64 0,.int .i64 0] 93;have HX:=Ai1 (fun w=>Ia x d a A hd hx ha hA h1 h2 w)
   have HY:=Ai1 (fun w=>Kl y d b B hd hy hb hB h4 w)
   have f0:=X.frozen 0;have f1:=X.frozen 1;have f2:=X.frozen 2;have f3:=X.frozen 3;have c0:=X.cell 0 _ rfl;have c1:=X.cell 1 _ rfl;have c2:=X.cell 2 _ rfl;have c3:=X.cell 3 _ rfl;have HB:=Ai1 X.old;clear hx hy hA hB ha hb HV X
   go_enter Vp.func67,Tryz.ntmps67
   go_wp2_with fail
   refine(HX.out _).mono ?_
   rintro e w1 ⟨rfl,rfl⟩
   go_wp2_with fail
   refine(HY.out _).mono ?_
   rintro e w1 ⟨rfl,rfl⟩
   go_wp2
   exact Ai6 (v:=.tuple #[.agg #[.int .i64 0,.int .i64 0,.int .i64 0,.int .i64 0],.bool false]) (by simp[results,Tryz.f67,go_sem]) rfl ⟨rfl,HB.out⟩
 ·have HV:Hid (ofV A B=.tuple #[.agg #[.int .i64 0,.int .i64 0,.int .i64 0,.int .i64 0],.bool false]):=by
   show _=_;unfold ofV;rw[Aid (fun h=>h2 h.1)]
  rw[HV.out];have X:=A8.new w #[.int .i64 0,.int .i64 0,.int .i64 0,.int .i64 0] 93;have HX:=Ai1 (fun w=>Kl x d a A hd hx ha hA h2 w)
  obtain⟨P,Q,t,HY⟩:∃(P Q:Int) (t:Bool),Hid (∀w,Calls Vp.prog 92 #[.float .f32 y] w fun e w'=>e=.returned (.tuple #[.int .i64 P,.int .i64 Q,.bool t])/\w=w'):=by
   by_cases h4:B<=134217728
   ·exact⟨B,B,true,fun w=>Ia y d b B hd hy hb hB h3 h4 w⟩
   ·exact⟨0,0,false,fun w=>Kl y d b B hd hy hb hB h4 w⟩
  have f0:=X.frozen 0;have f1:=X.frozen 1;have f2:=X.frozen 2;have f3:=X.frozen 3;have c0:=X.cell 0 _ rfl;have c1:=X.cell 1 _ rfl;have c2:=X.cell 2 _ rfl;have c3:=X.cell 3 _ rfl;have HB:=Ai1 X.old;clear hx hy hA hB ha hb HV X
  go_enter Vp.func67,Tryz.ntmps67
  go_wp2_with fail
  refine(HX.out _).mono ?_
  rintro e w1 ⟨rfl,rfl⟩
  go_wp2_with fail
  refine(HY.out _).mono ?_
  rintro e w1 ⟨rfl,rfl⟩
  go_wp2
  exact Ai6 (v:=.tuple #[.agg #[.int .i64 0,.int .i64 0,.int .i64 0,.int .i64 0],.bool false]) (by simp[results,Tryz.f67,go_sem]) rfl ⟨rfl,HB.out⟩
theorem A0w (cx cy d x y:Nat)(i j P0 P1 P2 P3 A2 B2 S:Int)(v:Bool)(hsd:(16777216:Int) / 2^d=S)(hd:d<=11)(k1:wrap64 (P1+S)=A2)(k2:wrap64 (P3+S)=B2)
 (HP:Hid (∀w,Calls Vp.prog 48 #[.complex .f32 cx cy,.int .i64 d,.int .i64 i,.int .i64 j] w fun e w'=>e=.returned (.complex .f32 x y)/\w=w'))
 (HO:Hid (∀w,Calls Vp.prog 67 #[.complex .f32 x y] w fun e w'=>e=.returned (.tuple #[.agg #[.int .i64 P0,.int .i64 P1,.int .i64 P2,.int .i64 P3],.bool v])/\Below w.heap.size w w')) (w:World) :
 Calls Vp.prog 45 #[.complex .f32 cx cy,.int .i64 d,.int .i64 i,.int .i64 j] w fun e w'=>e=.returned (.tuple #[.agg #[.int .i64 P0,.int .i64 A2,.int .i64 P2,.int .i64 B2],.bool (v && Bg P0 A2 P2 B2)])/\Below w.heap.size w w':=by
 have R:=A8.new w #[.int .i64 0,.int .i64 0,.int .i64 0,.int .i64 0] 93
 go_enter Vp.func45,Tryz.ntmps45
 go_wp2_with fail
 refine(HP.out _).mono ?_
 rintro e w1 ⟨rfl,rfl⟩
 go_wp2_with fail
 refine(HO.out _).mono ?_
 rintro e w2 ⟨rfl,hb⟩;replace R:=R.step hb;clear hb HP HO;have X:=(A8.new w2 #[.int .i64 P0,.int .i64 P1,.int .i64 P2,.int .i64 P3] 93).up R.old;have hne:w2.heap.size≠w.heap.size:=by have:=R.lt;omega
 have hxb:w.heap.size<=w2.heap.size:=R.old.size;replace R:=R.alloc (.cells #[.int .i64 P0,.int .i64 P1,.int .i64 P2,.int .i64 P3] 93);have x1:=X.cell 1 _ rfl;have x3:=X.cell 3 _ rfl;have f1:=X.frozen 1;have f3:=X.frozen 3
 go_upto_region 5 with fail
 clear x1 x3 f1 f3 X;have X:=(A8.new w2 #[.int .i64 P0,.int .i64 A2,.int .i64 P2,.int .i64 B2] 93).up (w0:=w) (by have:=R.old;exact⟨this.os,this.tape,this.output,hxb,fun k hk=>by rw[<-this.block k hk];exact(Am1 _ _ _ (by omega)).symm⟩)
 replace R:A8 w w.heap.size #[.int .i64 0,.int .i64 0,.int .i64 0,.int .i64 0] 93 (w2.alloc (.cells #[.int .i64 P0,.int .i64 A2,.int .i64 P2,.int .i64 B2] 93)):=by
  refine⟨?_,X.old⟩
  have:=R.blk;rw[Am1 _ _ _ (by have:=R.lt;simp at this;omega)]at this
  rw[Am1 _ _ _ (by have:=R.lt;simp at this;omega)]
  exact this
 clear hsd k1 k2;generalize w2.heap.size=xb at *;generalize w2.alloc (.cells #[.int .i64 P0,.int .i64 A2,.int .i64 P2,.int .i64 B2] 93)=W at *
 have HF:Hid (∀W,Below w.heap.size w W->∀u0 u1 u2 u3,Below w.heap.size w ((((W.setCell ⟨w.heap.size,0,none⟩ u0).setCell ⟨w.heap.size,1,none⟩ u1).setCell ⟨w.heap.size,2,none⟩ u2).setCell ⟨w.heap.size,3,none⟩ u3)):=fun W h u0 u1 u2 u3 =>
  (((h.setCell (p:=⟨w.heap.size,0,none⟩) (Ai3 _) _).setCell (p:=⟨w.heap.size,1,none⟩) (Ai3 _) _).setCell (p:=⟨w.heap.size,2,none⟩) (Ai3 _) _).setCell (p:=⟨w.heap.size,3,none⟩) (Ai3 _) _
 have x0:=X.cell 0 _ rfl;have x1:=X.cell 1 _ rfl;have x2:=X.cell 2 _ rfl;have x3:=X.cell 3 _ rfl;replace R:=R.step ((Aq.refl _).drew.below _);have HBV:=Ai1 (fun W=>Cb P0 A2 P2 B2 W)
 cases v with
 | true =>
   go_region_with (first
    |(go_at_call 68
      refine(HBV.out _).mono ?_
      rintro e w3 ⟨rfl,hb⟩;replace X:=X.step (((Aq.refl _).drew.below _).trans hb);replace R:=R.step hb;have x0:=X.cell 0 _ rfl;have x1:=X.cell 1 _ rfl;have x2:=X.cell 2 _ rfl;have x3:=X.cell 3 _ rfl;have c0:=R.cell 0 _ rfl;have c1:=R.cell 1 _ rfl;have c2:=R.cell 2 _ rfl;have c3:=R.cell 3 _ rfl;have f0:=R.frozen 0;have f1:=R.frozen 1;have f2:=R.frozen 2;have f3:=R.frozen 3;have HB:=Ai1 R.old))
   all_goals
    go_wp2
    exact Ai6 (v:=.tuple #[.agg #[.int .i64 P0,.int .i64 A2,.int .i64 P2,.int .i64 B2],.bool (true && Bg P0 A2 P2 B2)]) (by simp[results,Tryz.f45,go_sem,c0,c1,c2,c3,Al5]) rfl ⟨rfl,HF.out _ HB.out _ _ _ _⟩
 | false =>
   have c0:W.cell? ⟨w.heap.size,0,none⟩=some (.int .i64 0):=R.cell 0 _ rfl;have c1:W.cell? ⟨w.heap.size,1,none⟩=some (.int .i64 0):=R.cell 1 _ rfl;have c2:W.cell? ⟨w.heap.size,2,none⟩=some (.int .i64 0):=R.cell 2 _ rfl;have c3:W.cell? ⟨w.heap.size,3,none⟩=some (.int .i64 0):=R.cell 3 _ rfl;have f0:W.frozen? ⟨w.heap.size,0,none⟩=false:=R.frozen 0;have f1:W.frozen? ⟨w.heap.size,1,none⟩=false:=R.frozen 1;have f2:W.frozen? ⟨w.heap.size,2,none⟩=false:=R.frozen 2;have f3:W.frozen? ⟨w.heap.size,3,none⟩=false:=R.frozen 3;have HB:=Ai1 R.old
   go_region_with fail
   all_goals
    go_wp2
    exact Ai6 (v:=.tuple #[.agg #[.int .i64 P0,.int .i64 A2,.int .i64 P2,.int .i64 B2],.bool false]) (by simp[results,Tryz.f45,go_sem,c0,c1,c2,c3]) rfl ⟨rfl,HF.out _ HB.out _ _ _ _⟩
end
section
open Go.RowKit
theorem ownsRow_form {w:World}{base:Nat}{e:TypeId}{size:Nat}{v:Value}{n:Nat}{xs:List Value}(h:w.ownsRow base e size v n xs)(hn:0<n):∃g cap,v=.slice (some ⟨g,0,none⟩) n cap/\base<=g/\n<=cap:=by
 rcases h.2 with⟨_,h0⟩ |⟨g,cap,cur,rfl,hg,_,hc,_⟩
 ·omega
 ·exact⟨g,cap,rfl,hg,hc⟩
theorem A8.I1 {w0 W:World}{b:Nat}{v0 v1 v2 v3 v4:Value}{T:TypeId}(h:A8 w0 b #[v0,v1,v2,v3,v4] T W)(hb:w0.heap.size<=b)(u0 u1 u2 u3 u4:Value) :
 A8 w0 b #[u0,u1,u2,u3,u4] T (((((W.setCell ⟨b,0,none⟩ u0).setCell ⟨b,1,none⟩ u1).setCell ⟨b,2,none⟩ u2).setCell ⟨b,3,none⟩ u3).setCell ⟨b,4,none⟩ u4) :=
 ((((h.set hb 0 u0).set hb 1 u1).set hb 2 u2).set hb 3 u3).set hb 4 u4
theorem Dv {w:World}{base:Nat}{e:TypeId}{g cap n:Nat}{xs:List Value}(h:w.ownsRow base e 1 (.slice (some ⟨g,0,none⟩) n cap) n xs):Sl w (some ⟨g,0,none⟩) xs:=by
 refine .inr ⟨g,0,rfl,fun i v hv=>?_⟩
 have hl:i<xs.length:=(Aii.1 hv).1;rw[Ak1,h.cellAt i (by have:=h.1;omega)]
 exact hv
theorem Yc {w:World}{base:Nat}{e:TypeId}{g cap n m size:Nat}{xs:List Value}(h:w.ownsRow base e size (.slice (some ⟨g,0,none⟩) m cap) n xs):base<=g:=by
 rcases h.2 with⟨h,_⟩ |⟨g',cap',cur,hv,hg,_⟩
 ·cases h
 ·injection hv with h1 h2 h3
  injection h1 with h1
  injection h1 with h1
  rw[h1];exact hg
end
section
open Go.RowKit
def Dl (y:Int):Bool:=Gf y (-1) 1
def C8 (size:Int)(n:Nat)(ys:List Int):Bool:=decide ((n:Int)=size*size) && decide (ys.length=n) && ys.all Dl
theorem Wx {size:Int}{n:Nat}{ys:List Int}(h:¬(n:Int)=size*size):C8 size n ys=false:=by unfold C8;rw[Aj0 h];rfl
theorem Tr {size:Int}{n:Nat}{ys:List Int}(h:¬ys.length=n):C8 size n ys=false:=by unfold C8;rw[Aj0 h];simp
theorem Ww {size:Int}{n k:Nat}{ys:List Int}(hk:k<ys.length)(h:Dl ys[k]=false):C8 size n ys=false:=by
 unfold C8
 have:ys.all Dl=false:=by
  rw[List.all_eq_false]
  exact⟨_,List.getElem_mem hk,by rw[h];decide⟩
 rw[this,Bool.and_false]
theorem Ts {size:Int}{n:Nat}{ys:List Int}(h1:(n:Int)=size*size)(h2:ys.length=n)(h:∀j (hj:j<ys.length),Dl ys[j]=true):C8 size n ys=true:=by
 unfold C8;rw[Aip h1,Aip h2,Al5,Al5,Alo];intro y hy;obtain⟨j,hj,rfl⟩:=Ane hy
 exact h j hj
theorem Wv {size:Int}{n:Nat}{ys:List Int}(h:C8 size n ys=true):(n:Int)=size*size/\ys.length=n/\∀y,y∈ys->-1<=y/\y<=1:=by
 unfold C8 Dl Gf at h;simp only[Aia,Aiv,Alo]at h
 exact⟨h.1.1,h.1.2,h.2⟩
theorem Pw (cx cy:Nat)(deep size:Int)(hx:cx<4294967296)(hy:cy<4294967296)(hp:Az cx cy deep size=true)(a a':Option Addr)(n c c':Nat)(ys:List Int)(hl:ys.length<=1048576)(w:World)(hs:Sl w a' (ys.map Av)) :
 Calls Vp.prog 50 #[.agg #[.complex .f32 cx cy,.int .i64 deep,.int .i64 size,.slice a n c,.slice a' ys.length c']] w fun e w'=>e=.returned (.bool (C8 size n ys))/\Below w.heap.size w w':=by
 obtain⟨h1,h2,h3,h4⟩:=Bj hp;have hP:=A3b cx cy deep size hx hy;rw[hp]at hP;have HP:=Ai1 hP;have B:=A8.new w #[.complex .f32 cx cy,.int .i64 deep,.int .i64 size,.slice a n c,.slice a' ys.length c'] 35;have HS:=Ai1 (hs.alloc (.cells #[.complex .f32 cx cy,.int .i64 deep,.int .i64 size,.slice a n c,.slice a' ys.length c'] 35));obtain⟨m,hm⟩:∃m,ys.length=m:=⟨_,rfl⟩;obtain⟨q,hq⟩:∃q,size*size=q:=⟨_,rfl⟩
 have hqw:wrap64 (size*size)=q:=by
  have h5:size=1\/size=2\/size=3\/size=4\/size=5\/size=6\/size=7\/size=8:=by omega
  have h6:0<=q/\q<=64:=by
   rcases h5 with rfl|rfl|rfl|rfl|rfl|rfl|rfl|rfl<;>omega
  rw[hq];unfold wrap64;omega
 have HW1:Hid (¬(n:Int)=q->C8 size n ys=false):=fun h=>Wx (by rw[hq];exact h)
 have HW2:Hid (¬m=n->C8 size n ys=false):=fun h=>Tr (by rw[hm];exact h)
 have HW3:Hid (∀k (h:k<m),Dl (ys[k]'(by rw[hm];exact h))=false->C8 size n ys=false):=fun k h=>Ww (by rw[hm];exact h)
 have HW4:Hid ((n:Int)=q->m=n ->(∀k (h:k<m),Dl (ys[k]'(by rw[hm];exact h))=true)->C8 size n ys=true):=fun h1 h2 h3=>Ts (by rw[hq];exact h1) (by rw[hm];exact h2) (fun j hj=>h3 j (by rw[<-hm];exact hj))
 have HY:Hid (∀k (h:k<m),(ys.map Av)[k]?=some (.int .i64 (ys[k]'(by rw[hm];exact h)))):=fun k h=>by rw[Aiw,Aig (by rw[hm];exact h)];rfl
 rw[hm]at B HS hl ⊢;have HM:=Ai1 hm;clear hP hp hs hq h1 h2 h3 h4;generalize C8 size n ys=R at *
 go_enter Vp.func50,Tryz.ntmps50
 go_wp2_with fail
 refine(HP.out _).mono ?_
 rintro e w1 ⟨rfl,hd⟩;replace B:=B.step (hd.below _);have HS1:=Ai1 (HS.out.Vd hd);clear hd HS HP;have b2:=B.cell 2 _ rfl;have b3:=B.cell 3 _ rfl;have b4:=B.cell 4 _ rfl;have HB:=Ai1 B.old;clear B
 by_cases c1:(n:Int)=q
 ·have t1:((n:Int) != q)=false:=by simpa using c1
  by_cases c2:m=n
  ·have t2:((m:Int) != n)=false:=by simp;omega
   have HR:=Ai1 (HW4.out c1 c2);clear c1 c2 HW1 HW2 HW4
   go_wp2
   simp only[hqw];clear hqw
   go_loopw [2,3] (fun _ i wr=>∃k:Nat,k<=m/\i=.int .i64 k/\wr=w1/\Hid (∀j (h:j<m),j<k->Dl (ys[j]'(by rw[HM.out];exact h))=true)) (fun _ i _=>(m-intOf i).toNat)
   case atStart=>exact⟨0,by omega,rfl,rfl,fun j _ hj=>by omega⟩
   case round =>
    obtain⟨k,hk,rfl,rfl,HD⟩:=hrel
    by_cases hlt:k<m
    ·have hx:=HY.out k hlt;obtain⟨b,off,rfl,hc⟩:=HS1.out.at hx
     have HD2:Hid (Dl (ys[k]'(by rw[HM.out];exact hlt))=true->∀j (h:j<m),j<k+1->Dl (ys[j]'(by rw[HM.out];exact h))=true):=fun hyes j h hj=>by
      by_cases e:j=k
      ·subst e;exact hyes
      ·exact HD.out j h (by omega)
     have HN:=Ai1 (HW3.out k hlt);clear hx;generalize ys[k]'(by rw[HM.out];exact hlt)=y at *
     cases hok:Dl y with
     | false =>
       have HK:=Ai1 hok;unfold Dl at hok
       go_wp2_with (go_at_call 19;refine(C7 _ _ _ _).mono ?_;rw[hok];rintro e w' ⟨rfl,rfl⟩)
       go_ret
       exact⟨Fp (HN.out HK.out).symm,HB.out⟩
     | true =>
       have HK:=Ai1 hok;unfold Dl at hok
       go_wp2_with (go_at_call 19;refine(C7 _ _ _ _).mono ?_;rw[hok];rintro e w' ⟨rfl,rfl⟩)
       go_roundw
       case rel=>exact⟨k+1,by omega,by go_num,by trivial,HD2.out HK.out⟩
       case measure=>simp[intOf];omega
    ·go_wp2
     go_ret
     exact⟨Fp (HR.out (fun j h=>HD.out j h (by omega))).symm,HB.out⟩
  ·have t2:((m:Int) != n)=true:=by simp;omega
   have HR:=Ai1 (HW2.out c2);clear c1 c2
   go_wp2
   go_ret
   exact⟨Fp HR.out.symm,HB.out⟩
 ·have t1:((n:Int) != q)=true:=by simpa using c1
  have HR:=Ai1 (HW1.out c1);clear c1
  go_wp2
  go_ret
  exact⟨Fp HR.out.symm,HB.out⟩
theorem Pm (cx cy:Nat)(deep size:Int)(hx:cx<4294967296)(hy:cy<4294967296)(hp:Az cx cy deep size=true)(a a':Option Addr)(n c c':Nat)(ys:List Int)(hl:ys.length<=1048576)(w:World)(hs:Sl w a' (ys.map Av)) :
 Calls Vp.prog 27 #[.agg #[.complex .f32 cx cy,.int .i64 deep,.int .i64 size,.slice a n c,.slice a' ys.length c']] w fun e w'=>e=.returned (.bool (C8 size n ys))/\Below w.heap.size w w':=by
 obtain⟨h1,h2,h3,h4⟩:=Bj hp;have hP:=Yd cx cy deep size hx hy;replace hP:=hP hp;have HP:=Ai1 hP;have B:=A8.new w #[.complex .f32 cx cy,.int .i64 deep,.int .i64 size,.slice a n c,.slice a' ys.length c'] 35;have HS:=Ai1 (hs.alloc (.cells #[.complex .f32 cx cy,.int .i64 deep,.int .i64 size,.slice a n c,.slice a' ys.length c'] 35));obtain⟨m,hm⟩:∃m,ys.length=m:=⟨_,rfl⟩;obtain⟨q,hq⟩:∃q,size*size=q:=⟨_,rfl⟩
 have hqw:wrap64 (size*size)=q:=by
  have h5:size=1\/size=2\/size=3\/size=4\/size=5\/size=6\/size=7\/size=8:=by omega
  have h6:0<=q/\q<=64:=by
   rcases h5 with rfl|rfl|rfl|rfl|rfl|rfl|rfl|rfl<;>omega
  rw[hq];unfold wrap64;omega
 have HW1:Hid (¬(n:Int)=q->C8 size n ys=false):=fun h=>Wx (by rw[hq];exact h)
 have HW2:Hid (¬m=n->C8 size n ys=false):=fun h=>Tr (by rw[hm];exact h)
 have HW3:Hid (∀k (h:k<m),Dl (ys[k]'(by rw[hm];exact h))=false->C8 size n ys=false):=fun k h=>Ww (by rw[hm];exact h)
 have HW4:Hid ((n:Int)=q->m=n ->(∀k (h:k<m),Dl (ys[k]'(by rw[hm];exact h))=true)->C8 size n ys=true):=fun h1 h2 h3=>Ts (by rw[hq];exact h1) (by rw[hm];exact h2) (fun j hj=>h3 j (by rw[<-hm];exact hj))
 have HY:Hid (∀k (h:k<m),(ys.map Av)[k]?=some (.int .i64 (ys[k]'(by rw[hm];exact h)))):=fun k h=>by rw[Aiw,Aig (by rw[hm];exact h)];rfl
 rw[hm]at B HS hl ⊢;have HM:=Ai1 hm;clear hP hp hs hq h1 h2 h3 h4;generalize C8 size n ys=R at *
 go_enter Vp.func27,Tryz.ntmps27
 go_wp2_with fail
 refine(HP.out _).mono ?_
 rintro e w1 ⟨rfl,rfl⟩;clear HP;have b2:=B.cell 2 _ rfl;have b3:=B.cell 3 _ rfl;have b4:=B.cell 4 _ rfl;have HB:=Ai1 B.old;clear B
 by_cases c1:(n:Int)=q
 ·have t1:((n:Int) != q)=false:=by simpa using c1
  by_cases c2:m=n
  ·have t2:((m:Int) != q)=false:=by simp;omega
   have HR:=Ai1 (HW4.out c1 c2);clear c1 c2 HW1 HW2 HW4
   go_wp2
   simp only[hqw];clear hqw
   go_loop [2,5,34] (fun _ _ i=>∃k:Nat,k<=m/\i=.int .i64 k/\Hid (∀j (h:j<m),j<k->Dl (ys[j]'(by rw[HM.out];exact h))=true)) (fun _ _ i=>(m-intOf i).toNat)
   case atStart=>exact⟨0,by omega,rfl,fun j _ hj=>by omega⟩
   case round =>
    obtain⟨k,hk,rfl,HD⟩:=hrel
    by_cases hlt:k<m
    ·have hx:=HY.out k hlt;obtain⟨b,off,rfl,hc⟩:=HS.out.at hx
     have HD2:Hid (Dl (ys[k]'(by rw[HM.out];exact hlt))=true->∀j (h:j<m),j<k+1->Dl (ys[j]'(by rw[HM.out];exact h))=true):=fun hyes j h hj=>by
      by_cases e:j=k
      ·subst e;exact hyes
      ·exact HD.out j h (by omega)
     have HN:=Ai1 (HW3.out k hlt);clear hx;generalize ys[k]'(by rw[HM.out];exact hlt)=y at *
     by_cases y1:y < -1
     ·have hok:Dl y=false:=by unfold Dl Gf;simp;omega
      have HK:=Ai1 hok;clear hok
      go_wp2
      go_ret
      exact⟨Fp (HN.out HK.out).symm,HB.out⟩
     ·by_cases y2:1<y
      ·have hok:Dl y=false:=by unfold Dl Gf;simp;omega
       have HK:=Ai1 hok;clear hok
       go_wp2
       go_ret
       exact⟨Fp (HN.out HK.out).symm,HB.out⟩
      ·have hok:Dl y=true:=by unfold Dl Gf;simp;omega
       have HK:=Ai1 hok;clear hok
       go_wp2
       go_round
       case rel=>exact⟨k+1,by omega,by go_num,HD2.out HK.out⟩
       case measure=>simp[intOf];omega
    ·go_wp2
     go_ret
     exact⟨Fp (HR.out (fun j h=>HD.out j h (by omega))).symm,HB.out⟩
  ·have t2:((m:Int) != q)=true:=by simp;omega
   have HR:=Ai1 (HW2.out c2);clear c1 c2
   go_wp2
   go_ret
   exact⟨Fp HR.out.symm,HB.out⟩
 ·have t1:((n:Int) != q)=true:=by simpa using c1
  have HR:=Ai1 (HW1.out c1);clear c1
  go_wp2
  go_ret
  exact⟨Fp HR.out.symm,HB.out⟩
end
section
open Go.RowKit Flo
theorem We {cx cy:Nat}{deep size:Int}(hx:cx<4294967296)(hy:cy<4294967296)(hp:Az cx cy deep size=true):∃(d:Nat) (A B:Int),deep=d/\d<=10/\Pt cx d A/\Pt cy d B/\A.natAbs<=4*2^d/\B.natAbs<=4*2^d/\A.natAbs<=4096/\B.natAbs<=4096:=by
 obtain⟨h1,h2,h3,h4⟩:=Bj hp;obtain⟨d,rfl⟩:=Ajc h1;unfold Az at hp;rw[Aia,Aia,Ajk]at hp;obtain⟨A,hA,ha⟩:=J9 hx (by omega) hp.1.2
 obtain⟨B,hB,hb⟩:=J9 hy (by omega) hp.2
 have hdp:2^d<=2^10:=Ain (by omega) (by omega)
 exact⟨d,A,B,rfl,by omega,hA,hB,ha,hb,by omega,by omega⟩
end
namespace Co
def HW (P:Program)(s:List Item)(H:List Item->Act->World->Prop)(a:Act)(w:World):Prop :=
 ∀(b:Frame) (k:List Item) (cs:List Frame),∃t a' w',H t a' w'/\Steps P (lone (b.at a (s++k)) cs w) (lone (b.at a' (t++k)) cs w')
section
variable {P : Program} {H : List Item -> Act -> World -> Prop} {a a' : Act} {w w' : World} {s s' : List Item}
theorem HW.stop (h:H s a w):HW P s H a w:=fun b k cs=>⟨s,a,w,h,.refl _ _⟩
theorem HW.mono {H':List Item->Act->World->Prop}(h:HW P s H a w)(k:∀t a w,H t a w->H' t a w):HW P s H' a w:=fun b l cs =>
 let ⟨t,a',w',x,y⟩:=h b l cs
 ⟨t,a',w',k _ _ _ x,y⟩
theorem HW.step (h:∀(b:Frame) (k:List Item) (cs:List Frame),Go.step P (lone (b.at a (s++k)) cs w)=.next (lone (b.at a' (s'++k)) cs w'))(hn:HW P s' H a' w'):HW P s H a w:=fun b k cs =>
 let ⟨t,a2,w2,x,y⟩:=hn b k cs
 ⟨t,a2,w2,x,.head (h b k cs) y⟩
def Wd (N:Act->World->Prop):Exit->Act->World->Prop
 | .normal,a,w=>N a w
 | _,_,_=>False
theorem HW.Ph {c:Code}{N:Act->World->Prop}(h:c.wp P (Wd N) a w)(hn:∀a w,N a w->HW P s H a w):HW P (.code c :: s) H a w:=fun b k cs=>by
 obtain⟨e,a1,w1,hN,harr⟩:=h b (s++k) cs
 cases e<;>first
  | exact hN.elim
  | skip
 obtain⟨t,a2,w2,x,y⟩:=hn a1 w1 hN b k cs
 exact⟨t,a2,w2,x,Steps.trans harr y⟩
theorem HW.El {c:Code}(h:c.wp P (Wd fun a w=>HW P s H a w) a w):HW P (.code c :: s) H a w:=.Ph h fun _ _ h=>h
theorem HW.code {c:Code}{N:Act->World->Prop}(h:c.wp P (fun e a w=>e=.normal/\N a w) a w)(hn:∀a w,N a w->HW P s H a w):HW P (.code c :: s) H a w:=fun b k cs=>by
 obtain⟨e,a1,w1,⟨rfl,hN⟩,harr⟩:=h b (s++k) cs;obtain⟨t,a2,w2,x,y⟩:=hn a1 w1 hN b k cs
 exact⟨t,a2,w2,x,Steps.trans harr y⟩
theorem HW.seq {x y:Code}(h:HW P (.code x :: .code y :: s) H a w):HW P (.code (.seq x y) :: s) H a w:=.step (fun _ _ _=>step_seq) h
theorem HW.cond {c:Operand}{x y:Code}{t:Bool}(hc:a.eval c=.bool t)(h:HW P (.code (if t then x else y) :: s) H a w):HW P (.code (.cond c x y) :: s) H a w:=.step (fun _ _ _=>step_cond hc) h
theorem HW.block {id:Nat}{c:Code}(h:HW P (.code c :: .inBlock id :: s) H a w):HW P (.code (.block id c) :: s) H a w:=.step (fun _ _ _=>step_block) h
theorem HW.inBlock {id:Nat}(h:HW P s H a w):HW P (.inBlock id :: s) H a w:=.step (fun _ _ _=>step_inBlock) h
theorem HW.loop {c:Code}(h:HW P (.code c :: .inLoop c :: s) H a w):HW P (.code (.loop c) :: s) H a w:=.step (fun _ _ _=>step_loop) h
theorem HW.inLoop {c:Code}(h:HW P (.code c :: .inLoop c :: s) H a w):HW P (.inLoop c :: s) H a w:=.step (fun _ _ _=>step_inLoop) h
theorem HW.skip (h:HW P s H a w):HW P (.code .skip :: s) H a w:=.step (fun _ _ _=>step_skip) h
theorem Mq {id:Nat}:∀{s s' k:List Item},exitTo id s=some s'->exitTo id (s++k)=some (s'++k)
 | [],_,_,h=>by simp[exitTo]at h
 | x :: s,s',k,h=>by
   cases x with
   | inBlock j =>
     simp only[exitTo,Akg]at h ⊢
     split at h
     ·rename_i e
      rw[Aij e]
      cases h
      rfl
     ·rename_i e
      rw[Aid e]
      exact Mq h
   | _ =>
     simp only[exitTo,Akg]at h ⊢
     exact Mq h
theorem HW.exit {id:Nat}(h0:exitTo id s=some s')(h:HW P s' H a w):HW P (.code (.exit id) :: s) H a w:=.step (fun _ _ _=>step_exit (Mq h0)) h
end
end Co
section
open Go.RowKit Co
attribute [local go_sem ↓] Go.wp_at_zero Go.wp_at_succ
attribute [local go_sem] A7 A5
theorem Ij {P:Program}(w:World){ops:Array Oper}{o:Oper}{a:Act}{K:Act->World->Prop}{Q:Exit->Act->World->Prop}{E:Prop}(hgd:o.guard=none)(s x:Operand)(t:TypeId)
 (ho:o.op=.call { callee:=.builtin .append,args:=#[s,x],argTypes:=#[t,t] })
 (base:Nat) (e:TypeId) (i:TypeInfo) (size:Nat) (ht:P.underlying t=some (.slice e)) (hi:P.info? e=some i) (hsize:i.size=size)
 (g n cap:Nat) (xs:List Value) (hs:a.eval s=.slice (some ⟨g,0,none⟩) n cap) (hown:w.ownsRow base e size (.slice (some ⟨g,0,none⟩) n cap) n xs)
 (ad:Addr) (m c:Nat) (news:List Value) (hx:a.eval x=.slice (some ad) m c) (hl:news.length=m*size) (hnews:∀j u,news[j]?=some u->w.cell? (ad.add j)=some u) (h1:∀u∈news,u.oneCell'=true)
 (hroom:n+m<=cap)
 (h:∀w',w'.ownsRow base e size (.slice (some ⟨g,0,none⟩) (n+m) cap) (n+m) (xs++news)->w.grownBy w' (some g)->K (a.put o.dst (.slice (some ⟨g,0,none⟩) (n+m) cap)) w') :
 if Region.wanted o (yielded ops a.tmps)=true then Oper.wp P o a w K Q else E:=by
 have hw:Region.wanted o (yielded ops a.tmps)=true:=by simp[Region.wanted,hgd]
 rw[Aij hw]
 exact wp_append_own_spare w s x t ho base e i size ht hi hsize g n cap xs hs hown ad m c news hx hl hnews h1 hroom h
structure RW (w:World)(rb cap N M gs gm:Nat)(xs:List Nat)(ys:List Int)(W:World):Prop where
 R:A8 w rb #[.slice (some ⟨gs,0,none⟩) N cap,.slice (some ⟨gm,0,none⟩) M cap] 78 W
 S:W.ownsRow w.heap.size 74 1 (.slice (some ⟨gs,0,none⟩) N cap) N (xs.map D6)
 M:W.ownsRow w.heap.size 3 1 (.slice (some ⟨gm,0,none⟩) M cap) M (ys.map Av)
 hr:w.heap.size<=rb
section
variable {w W W' : World} {rb cap N M gs gm : Nat} {xs : List Nat} {ys : List Int}
theorem RW.step (h:RW w rb cap N M gs gm xs ys W)(k:Below W.heap.size W W'):RW w rb cap N M gs gm xs ys W':=⟨h.R.step k,Ab h.S k,Ab h.M k,h.hr⟩
theorem RW.alloc (h:RW w rb cap N M gs gm xs ys W)(o:Obj):RW w rb cap N M gs gm xs ys (W.alloc o):=h.step ((Aik _ _).alloc (Ai3 _) o)
theorem RW.Vd (h:RW w rb cap N M gs gm xs ys W)(k:Aq W W'):RW w rb cap N M gs gm xs ys W':=h.step (k.below _)
theorem RW.old (h:RW w rb cap N M gs gm xs ys W):Below w.heap.size w W:=h.R.old
theorem RW.c0 (h:RW w rb cap N M gs gm xs ys W):W.cell? ⟨rb,0,none⟩=some (.slice (some ⟨gs,0,none⟩) N cap):=h.R.cell 0 _ rfl
theorem RW.c1 (h:RW w rb cap N M gs gm xs ys W):W.cell? ⟨rb,1,none⟩=some (.slice (some ⟨gm,0,none⟩) M cap):=h.R.cell 1 _ rfl
theorem RW.Hv (h:RW w rb cap N M gs gm xs ys W){z:Nat}(hown:W'.ownsRow w.heap.size 74 1 (.slice (some ⟨gs,0,none⟩) (N+1) cap) (N+1) (xs.map D6++[D6 z]))(hg:W.grownBy W' (some gs)) :
 RW w rb cap (N+1) M gs gm (xs++[z]) ys (W'.setCell ⟨rb,0,none⟩ (.slice (some ⟨gs,0,none⟩) (N+1) cap))/\W'.cell? ⟨rb,0,none⟩=some (.slice (some ⟨gs,0,none⟩) N cap)/\W'.frozen? ⟨rb,0,none⟩=false:=by
 have hrow:∀k,some gs=some k->w.heap.size<=k:=fun k hk=>(h.S.lt k hk).1
 have R:=h.R.grown hg (Af h.S h.R.blk (by decide)) hrow
 have M:=h.M.kept hg (Cl h.M h.S (by decide))
 refine⟨⟨?_,?_,A6 M R.blk (by decide) _,h.hr⟩,R.cell 0 _ rfl,R.frozen 0⟩
 ·have:=R.set h.hr 0 (.slice (some ⟨gs,0,none⟩) (N+1) cap)
  exact this
 ·rw[Aj1]
  exact A6 hown R.blk (by decide) _
theorem RW.mark (h:RW w rb cap N M gs gm xs ys W){z:Int}(hown:W'.ownsRow w.heap.size 3 1 (.slice (some ⟨gm,0,none⟩) (M+1) cap) (M+1) (ys.map Av++[Av z]))(hg:W.grownBy W' (some gm)) :
 RW w rb cap N (M+1) gs gm xs (ys++[z]) (W'.setCell ⟨rb,1,none⟩ (.slice (some ⟨gm,0,none⟩) (M+1) cap))/\W'.cell? ⟨rb,1,none⟩=some (.slice (some ⟨gm,0,none⟩) M cap)/\W'.frozen? ⟨rb,1,none⟩=false:=by
 have hrow:∀k,some gm=some k->w.heap.size<=k:=fun k hk=>(h.M.lt k hk).1
 have R:=h.R.grown hg (Af h.M h.R.blk (by decide)) hrow
 have S:=h.S.kept hg (Cl h.S h.M (by decide))
 refine⟨⟨?_,A6 S R.blk (by decide) _,?_,h.hr⟩,R.cell 1 _ rfl,R.frozen 1⟩
 ·have:=R.set h.hr 1 (.slice (some ⟨gm,0,none⟩) (M+1) cap)
  exact this
 ·rw[Aj1]
  exact A6 hown R.blk (by decide) _
end
theorem Xz (w:World)(o:Obj):(w.alloc o).heap=w.heap.push o:=rfl
theorem Ac1 (w:World):w.drew.heap=w.heap:=rfl
theorem Wf (h:Array Obj)(a b c:Obj):(((h.push a).push b).push c)[h.size]?=some a /\(((h.push a).push b).push c)[h.size+1]?=some b /\(((h.push a).push b).push c)[h.size+1+1]?=some c:=by
 refine⟨?_,?_,?_⟩
 ·rw[Aie,Aid (by simp;omega),Aie,Aid (by simp),Aie,Aij rfl]
 ·rw[Aie,Aid (by simp),Aie,Aij (by simp)]
 ·rw[Aie,Aij (by simp)]
theorem F7 {P:Program}(t e:TypeId)(i:TypeInfo)(z:Value)(ht:P.underlying t=some (.slice e))(hi:P.info? e=some i)(hz:i.zero=some z)(n:Nat)(hb:i.bytes<=128)(hn:n<=1099511627776) :
 ∃C:Array Value,C.size=n*i.size/\∀w:World,(Instr.makeSlice t (.int .i64 0) (.int .i64 n)).run P w=.ok (.slice (some ⟨w.heap.size,0,none⟩) 0 n) (w.alloc (.cells C e)):=by
 refine⟨madeCells z.cells (n*i.size),size_madeCells _ _,fun w=>?_⟩
 have hm:i.bytes*n<=128*1099511627776:=Ajm hb hn;have hm2:((i.bytes*n:Nat):Int)=(i.bytes:Int)*n:=by simp
 have h:=run_make w t e i z ht hi hz .i64 .i64 (0:Int) n (by omega) (by omega) (by omega) (by omega)
 rw[Ajk]at h
 exact h
theorem RW.start {w W:World}{rb gs gm cap:Nat}{C D:Array Value}(hC:C.size=cap)(hD:D.size=cap)(hgs:w.heap.size<=gs)(hgm:w.heap.size<=gm)(hrb:w.heap.size<=rb)(hcap:cap<=8)(hW:Below w.heap.size w W)
 (hs:W.heap[gs]?=some (.cells C 74 (0,0))) (hm:W.heap[gm]?=some (.cells D 3 (0,0)))
 (hr:W.heap[rb]?=some (.cells #[.slice (some ⟨gs,0,none⟩) 0 cap,.slice (some ⟨gm,0,none⟩) 0 cap] 78 (0,0))):RW w rb cap 0 0 gs gm [] [] W :=
 ⟨⟨hr,hW⟩,⟨by simp,.inr ⟨gs,cap,_,rfl,hgs,hs,Aj9 _,by unfold maxLen;omega,by simp[hC],by simp⟩⟩,⟨by simp,.inr ⟨gm,cap,_,rfl,hgm,hm,Aj9 _,by unfold maxLen;omega,by simp[hD],by simp⟩⟩,hrb⟩
structure K9 (cx cy d n:Nat)(A4:Int)(px py:Nat->Nat->Nat)(bx:Nat->Nat->Value)(st:Nat->Nat->Int)(sm:Nat->Nat->Nat):Prop where
 pt:∀k l:Nat,k<n->l<n->∀W,Calls Vp.prog 32 #[.complex .f32 cx cy,.int .i64 d,.int .i64 k,.int .i64 l] W fun e w'=>e=.returned (.complex .f32 (px k l) (py k l))/\W=w'
 box:∀k l:Nat,k<n->l<n->∀W,Calls Vp.prog 58 #[.complex .f32 (px k l) (py k l),.int .i64 d] W fun e w'=>e=.returned (bx k l)/\Below W.heap.size W w'
 state:∀k l:Nat,k<n->l<n->∀W,Calls Vp.prog 57 #[bx k l,.int .i64 A4] W fun e w'=>e=.returned (.tuple #[.int .i64 (st k l),.bool true])/\Below W.heap.size W w'
 Hv:∀k l:Nat,k<n->l<n->∀W,Calls Vp.prog 59 #[.complex .f32 (px k l) (py k l),.int .i64 A4] W fun e w'=>e=.returned (.float .f32 (sm k l))/\Below W.heap.size W w'
noncomputable def G0:Code:=Tryz.f33.body.getD .skip
noncomputable def sX0:Code:=match G0 with|.seq _ (.seq _ (.block _ (.loop x)))=>x|_=>.skip
noncomputable def A3r:Code:=match sX0 with|.seq _ (.seq _ (.seq (.block _ r) _))=>r|_=>.skip
noncomputable def sR3:Code:=match A3r with|.seq a _=>a|_=>.skip
noncomputable def sR4:Code:=match A3r with|.seq _ (.seq a _)=>a|_=>.skip
noncomputable def sIn:Code:=match A3r with|.seq _ (.seq _ (.seq a _))=>a|_=>.skip
def Abh (ch:Value)(cx cy d n:Nat)(A4:Int)(st:Nat->Nat->Int)(sm:Nat->Nat->Nat)(ds:List Deferred)(w:World)(i:Nat)(a:Act)(W:World):Prop :=
 ∃rb gs gm,a.tmps.size=61/\a.defers=ds/\a.tmps[0]?=some ch/\a.tmps[1]?=some (.complex .f32 cx cy)/\a.tmps[2]?=some (.int .i64 d)/\a.tmps[3]?=some (.int .i64 n)/\a.tmps[4]?=some (.int .i64 A4) /\
  a.tmps[17]?=some (.int .i64 n)/\a.tmps[18]?=some (.int .i64 i)/\a.tmps[11]?=some (.pointer (some ⟨rb,0,none⟩))/\RW w rb n n n gs gm ((List.range n).map (sm i)) ((List.range n).map (st i)) W
theorem Agc {cx cy d n:Nat}{A4:Int}{px py:Nat->Nat->Nat}{bx:Nat->Nat->Value}{st:Nat->Nat->Int}{sm:Nat->Nat->Nat}(C:K9 cx cy d n A4 px py bx st sm)(hn:n<=8)(i:Nat)(hi:i<n)(ch:Value)(ds:List Deferred)(rb gs gm:Nat)(x5 x6 x7 x8 x9 x12 x13 x14 x15 x16 x19 x20 x21 x23 x25 x26 x27 x28 x29 x30 x31 x32 x33 x34 x35 x36 x37 x38 x39 x40 x41 x42 x43 x44 x45 x46 x47 x48 x49 x50 x51 x52 x53 x54 x55 x56 x57 x58 x59 x60:Value)(w W:World)(T:RW w rb n 0 0 gs gm [] [] W) :
 sIn.wp Vp.prog (Wd fun a w3=>Abh ch cx cy d n A4 st sm ds w i a w3) ⟨#[ch,.complex .f32 cx cy,.int .i64 d,.int .i64 n,.int .i64 A4,x5,x6,x7,x8,x9,.int .i64 i,.pointer (some ⟨rb,0,none⟩),x12,x13,x14,x15,x16,.int .i64 n,.int .i64 i,x19,x20,x21,.slice (some ⟨gs,0,none⟩) 0 n,x23,.slice (some ⟨gm,0,none⟩) 0 n,x25,x26,x27,x28,x29,x30,x31,x32,x33,x34,x35,x36,x37,x38,x39,x40,x41,x42,x43,x44,x45,x46,x47,x48,x49,x50,x51,x52,x53,x54,x55,x56,x57,x58,x59,x60],ds⟩ W:=by
 obtain⟨iF,hiF,hzF0,hzF1,hzF2⟩:=Ajw Vl;obtain⟨iI,hiI,hzI0,hzI1,hzI2⟩:=Ajw Po;have HT:=Ai1 T;have HC:=Ai1 C;clear T C;unfold sIn A3r sX0 G0 Tryz.f33;dsimp only[Option.getD]
 go_wp2
 go_loopw [12,13,14,15,27,28,29,30,31,32,33,34,35,36,37,38,39,40,41,42,43,44,45,46,47,48,49,50,51,52,53,54,55,56,57] (fun _ _ _ _ c _ _ _ _ _ _ _ _ _ _ _ _ _ _ _ _ _ _ _ _ _ _ _ _ _ _ _ _ _ _ wr=>∃l:Nat,l<=n/\c=.int .i64 l/\Hid (RW w rb n l l gs gm ((List.range l).map (sm i)) ((List.range l).map (st i)) wr)) (fun _ _ _ _ c _ _ _ _ _ _ _ _ _ _ _ _ _ _ _ _ _ _ _ _ _ _ _ _ _ _ _ _ _ _ _=>(n-intOf c).toNat)
 case atStart=>exact⟨0,by omega,rfl,HT⟩
 case round =>
  clear HT;obtain⟨l,hl,rfl,HT⟩:=hrel;obtain⟨wo,rfl⟩:∃wo,wo=wr:=⟨_,rfl⟩
  by_cases hls:l<n
  ·go_wp2_with fail
   refine(HC.out.pt i l hi hls _).mono ?_
   rintro e w1 ⟨rfl,rfl⟩
   go_wp2_with fail
   refine(HC.out.box i l hi hls _).mono ?_
   rintro e w2 ⟨rfl,hb⟩;have HT1:=Ai1 (HT.out.step hb);clear HT hb
   go_wp2_with fail
   refine(HC.out.state i l hi hls _).mono ?_
   rintro e w3 ⟨rfl,hb⟩;have T3:=HT1.out.step hb;clear HT1 hb;have k3:=T3.c0
   go_wp2_with fail
   go_region_law (first
    |(go_simp
      go_at_call 59
      refine(HC.out.Hv i l hi hls _).mono ?_
      rintro e w5 ⟨rfl,hb⟩;have T5:=(T3.Vd (Aq.refl _).drew).step hb;have k5:=T5.c0;have k5':=(T5.alloc (.cells #[.float .f32 (sm i l)] 74)).c0;clear hb)
    |(refine Ij _ (by rfl) _ _ _ (by rfl) w.heap.size 74 iF 1 (Vp.Di Tryz.underlying33) hiF hzF1 gs l n (((List.range l).map (sm i)).map D6) (by rfl) (T5.S.alloc _) ⟨w5.heap.size,0,none⟩ 1 1 [D6 (sm i l)] (by rfl) (by rfl) (World.news_of_block (cs:=#[D6 (sm i l)]) (t:=74) (fr:=(0,0)) (Ak6 w5 _)) (by simp[D6,Value.oneCell']) (by omega) ?_
      intro w6 hown hgrow;obtain⟨T6,k6,f6⟩:=(T5.alloc _).Hv hown hgrow))
   all_goals
    have HT6:=Ai1 T6;have k7:=T6.c1;have k8:=(T6.alloc (.cells #[.int .i64 (st i l)] 3)).c1;clear T3 T5 T6 k3 k5 k5' k6 f6 hown hgrow;generalize w6.setCell ⟨rb,0,none⟩ (.slice (some ⟨gs,0,none⟩) (l+1) n)=w7 at *
    go_wp2_with (at_builtin;refine wpList_append_own_spare _ rfl _ _ _ rfl w.heap.size 3 iI 1 (Vp.Di Tryz.underlying27) hiI hzI1 gm l n (((List.range l).map (st i)).map Av) rfl (HT6.out.M.alloc _) ⟨w7.heap.size,0,none⟩ 1 1 [Av (st i l)] rfl rfl (World.news_of_block (cs:=#[Av (st i l)]) (t:=3) (fr:=(0,0)) (Ak6 w7 _)) (by simp[Av,Value.oneCell']) (by omega) ?_;intro w8 hown hgrow;obtain⟨T8,k9,f9⟩:=(HT6.out.alloc _).mark hown hgrow;have HT8:=Ai1 T8;clear T8 hown hgrow)
    go_roundw
    case rel=>exact⟨l+1,by omega,by go_num,(by show RW _ _ _ _ _ _ _ _ _ _;rw[List.range_succ,Aj1,Aj1];exact HT8.out)⟩
    case measure=>simp[intOf];omega
  ·obtain rfl:l=n:=by omega
   go_wp2
   exact⟨rb,gs,gm,rfl,rfl,rfl,rfl,rfl,rfl,rfl,rfl,rfl,rfl,HT.out⟩
theorem Af6 {cx cy d n:Nat}{A4:Int}{px py:Nat->Nat->Nat}{bx:Nat->Nat->Value}{st:Nat->Nat->Int}{sm:Nat->Nat->Nat}(C:K9 cx cy d n A4 px py bx st sm)(hn:n<=8)(i:Nat)(hi:i<n)(ch:Value)(ds:List Deferred)(x5 x6 x7 x8 x9 x10 x11 x12 x13 x14 x15 x16 x19 x20 x21 x22 x23 x24 x25 x26 x27 x28 x29 x30 x31 x32 x33 x34 x35 x36 x37 x38 x39 x40 x41 x42 x43 x44 x45 x46 x47 x48 x49 x50 x51 x52 x53 x54 x55 x56 x57 x58 x59 x60:Value)(w:World) :
 sR3.wp Vp.prog (Wd fun a w1=>sR4.wp Vp.prog (Wd fun a w2=>sIn.wp Vp.prog (Wd fun a w3=>Abh ch cx cy d n A4 st sm ds w i a w3) a w2) a w1) ⟨#[ch,.complex .f32 cx cy,.int .i64 d,.int .i64 n,.int .i64 A4,x5,x6,x7,x8,x9,x10,x11,x12,x13,x14,x15,x16,.int .i64 n,.int .i64 i,x19,x20,x21,x22,x23,x24,x25,x26,x27,x28,x29,x30,x31,x32,x33,x34,x35,x36,x37,x38,x39,x40,x41,x42,x43,x44,x45,x46,x47,x48,x49,x50,x51,x52,x53,x54,x55,x56,x57,x58,x59,x60],ds⟩ w:=by
 obtain⟨iF,hiF,hzF0,hzF1,hzF2⟩:=Ajw Vl;obtain⟨iI,hiI,hzI0,hzI1,hzI2⟩:=Ajw Po;obtain⟨cF,hcF,hF⟩:=F7 (P:=Vp.prog) 33 74 iF _ (Vp.Di Tryz.underlying33) hiF hzF0 n (by omega) (by omega)
 obtain⟨cI,hcI,hI⟩:=F7 (P:=Vp.prog) 27 3 iI _ (Vp.Di Tryz.underlying27) hiI hzI0 n (by omega) (by omega)
 unfold sR3 A3r sX0 G0 Tryz.f33;dsimp only[Option.getD]
 go_wp2
 show Code.wp Vp.prog sR4 _ _ _
 unfold sR4 A3r sX0 G0 Tryz.f33;dsimp only[Option.getD]
 go_region
 all_goals
  clear hF hI
  refine Agc C hn i hi ch ds _ _ _ _ _ _ _ _ _ _ _ _ _ _ _ _ _ _ _ _ _ _ _ _ _ _ _ _ _ _ _ _ _ _ _ _ _ _ _ _ _ _ _ _ _ _ _ _ _ _ _ _ _ w _ ?_
  refine RW.start (cap:=n) (by rw[hcF,hzF1];omega) (by rw[hcI,hzI1];omega) (by omega) (by omega) (by omega) hn ?_ ?_ ?_ ?_
  ·exact((((Aik _ _).alloc (Ai3 _) _).alloc (by simp) _).alloc (by simp;omega) _).drew
  all_goals
   simp only[Xz,Ac1]
   first|exact(Wf _ _ _ _).1|exact(Wf _ _ _ _).2.1|exact(Wf _ _ _ _).2.2
end
end Go.Proofs.YtlfleicchbgcmaaGreat
