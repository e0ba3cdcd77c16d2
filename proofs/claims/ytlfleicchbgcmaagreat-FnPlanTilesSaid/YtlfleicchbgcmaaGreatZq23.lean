import Derived.Test.YtlfleicchbgcmaaGreatZq22
import Derived.Lib.AppendZerosOnto
import Derived.Shelf.Spec.SlicesGrow
import Derived.Deep.Upon
import Derived.Test.YtlfleicchbgcmaaGreatZq0
import Derived.Test.YtlfleicchbgcmaaGreatZqK
set_option linter.all false
set_option maxHeartbeats 16000000
set_option maxRecDepth 100000
namespace Go.Proofs.YtlfleicchbgcmaaGreat
section
open Go.RowKit Go.Sort
attribute [local go_sem ↓] Go.wp_at_zero Go.wp_at_succ
attribute [local go_sem] A7 A5
theorem A8.Cv {w0 W:World}{b:Nat}{v0 v1 v2 v3 v4 v5 v6:Value}{T:TypeId}(h:A8 w0 b #[v0,v1,v2,v3,v4,v5,v6] T W) :
 W.cell? ⟨b,0,none⟩=some v0/\W.cell? ⟨b,1,none⟩=some v1/\W.cell? ⟨b,2,none⟩=some v2/\W.cell? ⟨b,3,none⟩=some v3/\W.cell? ⟨b,4,none⟩=some v4/\W.cell? ⟨b,5,none⟩=some v5/\W.cell? ⟨b,6,none⟩=some v6 :=
 ⟨h.cell 0 _ rfl,h.cell 1 _ rfl,h.cell 2 _ rfl,h.cell 3 _ rfl,h.cell 4 _ rfl,h.cell 5 _ rfl,h.cell 6 _ rfl⟩
theorem A8.Ag8 {w0 W:World}{b:Nat}{C:Array Value}{T:TypeId}(h:A8 w0 b C T W) :
 W.frozen? ⟨b,0,none⟩=false/\W.frozen? ⟨b,1,none⟩=false/\W.frozen? ⟨b,2,none⟩=false/\W.frozen? ⟨b,3,none⟩=false/\W.frozen? ⟨b,4,none⟩=false/\W.frozen? ⟨b,5,none⟩=false/\W.frozen? ⟨b,6,none⟩=false :=
 ⟨h.frozen 0,h.frozen 1,h.frozen 2,h.frozen 3,h.frozen 4,h.frozen 5,h.frozen 6⟩
theorem A8.Aey {w0 W:World}{b:Nat}{C:Array Value}{T:TypeId}(h:A8 w0 b C T W){p:Nat}(hp:w0.heap.size<=p)(hne:b≠p)(u0 u1 u2 u3 u4 u5 u6:Value) :
 A8 w0 b C T (((((((W.setCell ⟨p,0,none⟩ u0).setCell ⟨p,1,none⟩ u1).setCell ⟨p,2,none⟩ u2).setCell ⟨p,3,none⟩ u3).setCell ⟨p,4,none⟩ u4).setCell ⟨p,5,none⟩ u5).setCell ⟨p,6,none⟩ u6) :=
 ((((((h.other (p:=⟨p,0,none⟩) hp hne u0).other (p:=⟨p,1,none⟩) hp hne u1).other (p:=⟨p,2,none⟩) hp hne u2).other (p:=⟨p,3,none⟩) hp hne u3).other (p:=⟨p,4,none⟩) hp hne u4).other (p:=⟨p,5,none⟩) hp hne u5).other (p:=⟨p,6,none⟩) hp hne u6
theorem Ae3 {w W:World}(h:Below w.heap.size w W){b:Nat}(hb:w.heap.size<=b)(u0 u1 u2 u3 u4 u5 u6:Value) :
 Below w.heap.size w (((((((W.setCell ⟨b,0,none⟩ u0).setCell ⟨b,1,none⟩ u1).setCell ⟨b,2,none⟩ u2).setCell ⟨b,3,none⟩ u3).setCell ⟨b,4,none⟩ u4).setCell ⟨b,5,none⟩ u5).setCell ⟨b,6,none⟩ u6) :=
 ((((((h.setCell (p:=⟨b,0,none⟩) hb u0).setCell (p:=⟨b,1,none⟩) hb u1).setCell (p:=⟨b,2,none⟩) hb u2).setCell (p:=⟨b,3,none⟩) hb u3).setCell (p:=⟨b,4,none⟩) hb u4).setCell (p:=⟨b,5,none⟩) hb u5).setCell (p:=⟨b,6,none⟩) hb u6
theorem A0p (a b c:Int)(w:World):(Instr.index 53 (.agg #[.int .i64 a,.int .i64 b,.int .i64 c]) (.int .i64 2)).run Vp.prog w=.ok (.int .i64 c) w:=by kernel_rfl
theorem Uz (t:Ai)(path:ByteArray)(B:Nat)(w:World)(h:C9 B t w) :
 Calls Vp.prog 37 #[.agg t.cells.toArray,.string path] w fun e w'=>e=.returned (.agg (Ag ⟨t,path,(cnt 0 t.ys:Nat)⟩).toArray)/\Below w.heap.size w w':=by
 have e1:t.cells.toArray=#[.complex .f32 t.cx t.cy,.int .i64 t.deep,.int .i64 t.size,.slice (some ⟨t.gs,0,none⟩) t.n t.cs,.slice (some ⟨t.gm,0,none⟩) t.n t.cm]:=rfl;have e2:(Ag ⟨t,path,(cnt 0 t.ys:Nat)⟩).toArray=#[.complex .f32 t.cx t.cy,.int .i64 t.deep,.int .i64 t.size,.slice (some ⟨t.gs,0,none⟩) t.n t.cs,.slice (some ⟨t.gm,0,none⟩) t.n t.cm,.string path,.int .i64 (cnt 0 t.ys:Nat)]:=rfl;rw[e1,e2]
 have HC0:Hid (∀W',Below w.heap.size w W'->Calls Vp.prog 17 #[.slice (some ⟨t.gm,0,none⟩) t.n t.cm] W' fun e w'=>e=.returned (.agg #[.int .i64 (cnt 1 t.ys:Nat),.int .i64 (cnt (-1) t.ys:Nat),.int .i64 (cnt 0 t.ys:Nat)])/\Below W'.heap.size W' w'):=fun W' hb=>by
  have hb':=Bj h.pl;have hl:=h.made.ly
  have hn:t.n<=64:=by
   unfold Ai.n;have:t.size.toNat<=8:=by omega
   exact Ajm this this
  have:=Kg (some ⟨t.gm,0,none⟩) t.cm t.ys (by omega) h.made.hy W' (Dv (h.step hb).made.M)
  rw[hl]at this;have hcq:Fy t.ys t.n=#[.int .i64 (cnt 1 t.ys:Nat),.int .i64 (cnt (-1) t.ys:Nat),.int .i64 (cnt 0 t.ys:Nat)]:=by unfold Fy;rw[<-hl,Amz]
  rwa [hcq]at this
 clear h e1 e2;generalize cnt 1 t.ys=m1 at *;generalize cnt (-1) t.ys=m2 at *;generalize cnt 0 t.ys=m0 at *;have X:=(A8.new w #[.complex .f32 t.cx t.cy,.int .i64 t.deep,.int .i64 t.size,.slice (some ⟨t.gs,0,none⟩) t.n t.cs,.slice (some ⟨t.gm,0,none⟩) t.n t.cm] 35).alloc (.cells #[.complex .f32 0 0,.int .i64 0,.int .i64 0,.slice none 0 0,.slice none 0 0,.string ⟨#[]⟩,.int .i64 0] 52);have Z:=(A8.new (w.alloc (.cells #[.complex .f32 t.cx t.cy,.int .i64 t.deep,.int .i64 t.size,.slice (some ⟨t.gs,0,none⟩) t.n t.cs,.slice (some ⟨t.gm,0,none⟩) t.n t.cm] 35)) #[.complex .f32 0 0,.int .i64 0,.int .i64 0,.slice none 0 0,.slice none 0 0,.string ⟨#[]⟩,.int .i64 0] 52).up (A8.new w #[.complex .f32 t.cx t.cy,.int .i64 t.deep,.int .i64 t.size,.slice (some ⟨t.gs,0,none⟩) t.n t.cs,.slice (some ⟨t.gm,0,none⟩) t.n t.cm] 35).old;rw[Aim]at Z;have HX1:=Ai1 X;have HZ1:=Ai1 Z;have mixed:Vp.prog.follows .mixedOrders=true:=by kernel_rfl
 clear X Z
 go_enter Vp.func37,Tryz.ntmps37
 go_upto_region 1 with fail
 generalize (w.alloc (.cells #[.complex .f32 t.cx t.cy,.int .i64 t.deep,.int .i64 t.size,.slice (some ⟨t.gs,0,none⟩) t.n t.cs,.slice (some ⟨t.gm,0,none⟩) t.n t.cm] 35)).alloc (.cells #[.complex .f32 0 0,.int .i64 0,.int .i64 0,.slice none 0 0,.slice none 0 0,.string ⟨#[]⟩,.int .i64 0] 52)=W at *;have HX:Hid (∀W',Below W.drew.heap.size W.drew W'->A8 w w.heap.size #[.complex .f32 t.cx t.cy,.int .i64 t.deep,.int .i64 t.size,.slice (some ⟨t.gs,0,none⟩) t.n t.cs,.slice (some ⟨t.gm,0,none⟩) t.n t.cm] 35 W'):=fun W' h=>(HX1.out.step ((Aq.refl _).drew.below _)).step h
 have HZ:Hid (∀W',Below W.drew.heap.size W.drew W'->A8 w (w.heap.size+1) #[.complex .f32 0 0,.int .i64 0,.int .i64 0,.slice none 0 0,.slice none 0 0,.string ⟨#[]⟩,.int .i64 0] 52 W'):=fun W' h=>(HZ1.out.step ((Aq.refl _).drew.below _)).step h
 have HC:Hid (∀W',Below W.drew.heap.size W.drew W'->Calls Vp.prog 17 #[.slice (some ⟨t.gm,0,none⟩) t.n t.cm] W' fun e w'=>e=.returned (.agg #[.int .i64 m1,.int .i64 m2,.int .i64 m0])/\Below W'.heap.size W' w'):=fun W' h=>HC0.out W' (HX.out W' h).old
 have hbk:=Aik W.drew.heap.size W.drew;have HXs:=Ai1 (fun W' h u0 u1 u2 u3 u4 u5 u6=>(HX.out W' h).Aey (p:=w.heap.size+1) (by omega) (by omega) u0 u1 u2 u3 u4 u5 u6)
 have ix:=A0p m1 m2 m0;clear HX1 HZ1 HC0
 go_region_held3 (fun w'=>w'.cell? ⟨w.heap.size,0,none⟩=some (.complex .f32 t.cx t.cy)/\w'.cell? ⟨w.heap.size,1,none⟩=some (.int .i64 t.deep)/\w'.cell? ⟨w.heap.size,2,none⟩=some (.int .i64 t.size)/\w'.cell? ⟨w.heap.size,3,none⟩=some (.slice (some ⟨t.gs,0,none⟩) t.n t.cs)/\w'.cell? ⟨w.heap.size,4,none⟩=some (.slice (some ⟨t.gm,0,none⟩) t.n t.cm)) (((first|dsimp only|skip);first |(with_reducible exact(HX.out _ hbk).Aa) |(with_reducible exact(HXs.out _ hbk _ _ _ _ _ _ _).Aa))) (first
  |(go_at_call 17;(with_reducible refine(HC.out _ hbk).mono ?_);rintro e w' ⟨rfl,hb⟩;replace hbk:=hbk.trans (hb.mono hbk.size);clear hb;obtain⟨z0,z1,z2,z3,z4,z5,z6⟩:=(HZ.out _ hbk).Cv;obtain⟨g0,g1,g2,g3,g4,g5,g6⟩:=(HZ.out _ hbk).Ag8))
 all_goals
  go_wp2
  exact Ai6 (v:=.agg #[.complex .f32 t.cx t.cy,.int .i64 t.deep,.int .i64 t.size,.slice (some ⟨t.gs,0,none⟩) t.n t.cs,.slice (some ⟨t.gm,0,none⟩) t.n t.cm,.string path,.int .i64 m0]) (by simp[results,Tryz.f37,go_sem,z0,z1,z2,z3,z4,z5,z6]) rfl ⟨rfl,Ae3 (HZ.out _ hbk).old (by omega) _ _ _ _ _ _ _⟩
end
section
open Go.RowKit Go.Sort
attribute [local go_sem ↓] Go.wp_at_zero Go.wp_at_succ
attribute [local go_sem] A7 A5
theorem Ds {P:Program}(w:World){ops:Array Oper}{rest:List Oper}{o:Oper}{a:Act}{Q:Exit->Act->World->Prop}(hgd:o.guard=none)(s x:Operand)(t:TypeId)
 (ho:o.op=.call { callee:=.builtin .append,args:=#[s,x],argTypes:=#[t,t] })
 (base:Nat) (e:TypeId) (i:TypeInfo) (z:Value) (size bytes:Nat) (ht:P.underlying t=some (.slice e)) (hi:P.info? e=some i) (hz:i.zero=some z)
 (hsize:i.size=size) (hby:i.bytes=bytes) (hzs:z.cells.size=size) (hsz:0<size)
 (v:Value) (n:Nat) (xs:List Value) (hs:a.eval s=v) (hown:w.ownsRow base e size v n xs)
 (ad:Addr) (m c:Nat) (news:List Value) (hx:a.eval x=.slice (some ad) m c) (hl:news.length=m*size) (hnews:∀j u,news[j]?=some u->w.cell? (ad.add j)=some u) (h1:∀u∈news,u.oneCell'=true)
 (h63:n+m<=maxLen) (hbytes:(n+m)*bytes<=140737488355328) (hbase:base<=w.heap.size)
 (h:∀v' w',w'.ownsRow base e size v' (n+m) (xs++news)->w.grownBy w' v.ownBlock ->(v'.ownBlock=v.ownBlock\/v'.ownBlock=some w.heap.size)->wpList P ops Q rest (a.put o.dst v') w'):wpList P ops Q (o :: rest) a w:=by
 obtain⟨v',w',hr,h2,h3,-,h5⟩:=run_append_own_at (P:=P) w base t o.type e i z size bytes ht hi hz hsize hby hzs hsz v n xs hown ad m c news hl hnews h1 h63 hbytes hbase
 refine wpList_plain hgd fun K hK=>?_
 unfold Oper.wp execOp;simp only[ho,resolve,invoke,builtin,Akp,Sem.run_pure,Ame,Amb,Ak4,Ald,hs,hx,hr]
 exact hK _ _ (h v' w' h2 h3 h5)
structure M7 (B:Nat)(w0:World)(rb db hb:Nat)(H D:List Ad)(hv dv:Value)(W:World):Prop where
 heap:X6 w0 hb H hv W
 A1g:A8 w0 rb #[.pointer (some ⟨hb,0,none⟩)] 79 W
 On:A8 w0 db #[dv] 48 W
 Oo:W.ownsRow w0.heap.size 52 7 dv D.length (Ao D)
 apart:∀k,dv.ownBlock=some k->hv.ownBlock≠some k
 A8z:w0.heap.size<=db
 own:∀p,p∈H\/p∈D->C9 B p.t W
abbrev rfS (hb db:Nat)(hv dv:Value):Nat->Prop:=fun k=>k=hb\/k=db\/hv.ownBlock=some k\/dv.ownBlock=some k
theorem Cn {W:World}{B:Nat}{e:TypeId}{size n:Nat}{v:Value}{xs:List Value}(h:W.ownsRow B e size v n xs){k:Nat}(hk:v.ownBlock=some k):B<=k/\∃C,W.heap[k]?=some (.cells C e (0,0)):=by
 rcases h.2 with⟨rfl,_⟩ |⟨g,cap,cur,rfl,h2,h3,_⟩
 ·cases hk
 ·injection hk with hk
  have hk:g=k:=hk;subst hk
  exact⟨h2,cur,h3⟩
theorem M7.low {B:Nat}{w0:World}{rb db hb:Nat}{H D:List Ad}{hv dv:Value}{W:World}(h:M7 B w0 rb db hb H D hv dv W):∀k,rfS hb db hv dv k->w0.heap.size<=k:=by
 rintro k (rfl|rfl|hk|hk)
 ·exact h.heap.low
 ·exact h.A8z
 ·exact(Cn h.heap.row hk).1
 ·exact(Cn h.Oo hk).1
theorem M7.types {B:Nat}{w0:World}{rb db hb:Nat}{H D:List Ad}{hv dv:Value}{W:World}(h:M7 B w0 rb db hb H D hv dv W):∀k,rfS hb db hv dv k->∃C T,W.heap[k]?=some (.cells C T (0,0)) /\(T=82\/T=48\/T=52):=by
 rintro k (rfl|rfl|hk|hk)
 ·exact⟨_,_,h.heap.box.blk,.inl rfl⟩
 ·exact⟨_,_,h.On.blk,.inr (.inl rfl)⟩
 ·obtain⟨_,C,hc⟩:=Cn h.heap.row hk
  exact⟨_,_,hc,.inr (.inr rfl)⟩
 ·obtain⟨_,C,hc⟩:=Cn h.Oo hk
  exact⟨_,_,hc,.inr (.inr rfl)⟩
theorem M7.aside {B:Nat}{w0:World}{rb db hb:Nat}{H D:List Ad}{hv dv:Value}{W:World}(h:M7 B w0 rb db hb H D hv dv W){k:Nat}{C:Array Value}{T:TypeId}(hk:W.heap[k]?=some (.cells C T (0,0)))(hT:T≠82/\T≠48/\T≠52):¬rfS hb db hv dv k:=by
 intro hs;obtain⟨C',T',hc,ht⟩:=h.types k hs;rw[hk]at hc;injection hc with hc
 injection hc with _ hc
 subst hc
 rcases ht with h|h|h
 ·exact hT.1 h
 ·exact hT.2.1 h
 ·exact hT.2.2 h
theorem C9.chg {S:Nat->Prop}{B:Nat}{t:Ai}{w w':World}(h:C9 B t w)(k:Fx S w w')(hS:∀b C T,w.heap[b]?=some (.cells C T (0,0)) ->(T=74\/T=3)->¬S b):C9 B t w' :=
 ⟨⟨k.owns h.made.S fun b hb=>by
  obtain⟨_,C,hc⟩:=Cn h.made.S hb
  exact hS b C _ hc (.inl rfl),k.owns h.made.M fun b hb=>by
  obtain⟨_,C,hc⟩:=Cn h.made.M hb
  exact hS b C _ hc (.inr rfl),h.made.lx,h.made.ly,h.made.hx,h.made.hy⟩,h.pl,h.bx,h.by1,h.ks,h.km⟩
theorem M7.A5y {B:Nat}{w0:World}{rb db hb:Nat}{H D:List Ad}{hv dv:Value}{W W':World}(h:M7 B w0 rb db hb H D hv dv W)(k:Fx (rfS hb db hv dv) W W'){B':Nat}{t:Ai}(ht:C9 B' t W):C9 B' t W' :=
 ht.chg k fun b C T hc hT=>h.aside hc (by rcases hT with rfl|rfl<;>decide)
theorem M7.step {B:Nat}{w0:World}{rb db hb:Nat}{H D:List Ad}{hv dv:Value}{W W':World}(h:M7 B w0 rb db hb H D hv dv W)(k:Below W.heap.size W W'):M7 B w0 rb db hb H D hv dv W' :=
 ⟨h.heap.step k,h.A1g.step k,h.On.step k,Ab h.Oo k,h.apart,h.A8z,fun p hp=>(h.own p hp).step k⟩
theorem M7.Aga {B:Nat}{w0:World}{rb db hb:Nat}{H D:List Ad}{hv dv:Value}{W:World}(h:M7 B w0 rb db hb H D hv dv W):hb≠db:=by
 intro e;subst e;have:=h.heap.box.blk.symm.trans h.On.blk;injection this with this
 injection this with _ this
 revert this
 decide
theorem M7.lt {B:Nat}{w0:World}{rb db hb:Nat}{H D:List Ad}{hv dv:Value}{W:World}(h:M7 B w0 rb db hb H D hv dv W){k:Nat}(hk:rfS hb db hv dv k):k<W.heap.size:=by
 obtain⟨C,T,hc,_⟩:=h.types k hk
 exact(Ai2.1 hc).1
theorem M7.A9b {B:Nat}{w0:World}{rb db hb:Nat}{H D H':List Ad}{hv dv hv':Value}{W W':World}(h:M7 B w0 rb db hb H D hv dv W)(hi:X6 w0 hb H' hv' W')(hc:Fx (hpS hb hv) W W')(hm:Kb W hv hv')(ho:∀p,p∈H'->C9 B p.t W):M7 B w0 rb db hb H' D hv' dv W'/\Fx (rfS hb db hv dv) W W':=by
 have hc':Fx (rfS hb db hv dv) W W':=hc.mono fun k _ hk=>hk.elim .inl fun h=>.inr (.inr (.inl h))
 have hlow:∀k,hpS hb hv k->w0.heap.size<=k:=fun k hk=>h.low k (hk.elim .inl fun h=>.inr (.inr (.inl h)))
 refine⟨⟨hi,hc'.box h.A1g (h.aside h.A1g.blk (by decide)) h.low,hc.box h.On (fun hs=>?_) hlow,hc.owns h.Oo (fun b hb' hs=>?_),fun k hk e=>?_,h.A8z,fun p hp=>?_⟩,hc'⟩
 ·rcases hs with hs|hs
  ·exact h.Aga hs.symm
  ·exact Af h.heap.row h.On.blk (by decide) hs
 ·rcases hs with rfl|hs
  ·exact Af h.Oo h.heap.box.blk (by decide) hb'
  ·exact h.apart b hb' hs
 ·rcases hm with hm |⟨g,hm,hg⟩
  ·exact h.apart k hk (hm▸e)
  ·rw[hm]at e;injection e with e
   have:=h.lt (.inr (.inr (.inr hk)))
   omega
 ·exact h.A5y hc' (hp.elim (ho p) fun hp=>h.own p (.inr hp))
theorem M7.Af0 {B:Nat}{w0:World}{rb db hb:Nat}{H D:List Ad}{hv dv dv':Value}{W W':World}{p:Ad}(h:M7 B w0 rb db hb H D hv dv W)(hb':A8 w0 db #[dv'] 48 W')(hr:W'.ownsRow w0.heap.size 52 7 dv' (D.length+1) (Ao D++Ag p))(hc:Fx (fun k=>k=db\/dv.ownBlock=some k) W W')(hm:Kb W dv dv')(ho:C9 B p.t W) :
 M7 B w0 rb db hb H (D++[p]) hv dv' W'/\Fx (rfS hb db hv dv) W W':=by
 have hc':Fx (rfS hb db hv dv) W W':=hc.mono fun k _ hk=>hk.elim (fun h=>.inr (.inl h)) fun h=>.inr (.inr (.inr h))
 have hlow:∀k,(k=db\/dv.ownBlock=some k)->w0.heap.size<=k:=fun k hk=>h.low k (hk.elim (fun h=>.inr (.inl h)) fun h=>.inr (.inr (.inr h)))
 refine⟨⟨⟨hc.box h.heap.box (fun hs=>?_) hlow,hc.owns h.heap.row (fun b hbk hs=>?_),h.heap.low⟩,hc'.box h.A1g (h.aside h.A1g.blk (by decide)) h.low,hb',by rw[Aje,Pg];exact hr,fun k hk e=>?_,h.A8z,fun q hq=>?_⟩,hc'⟩
 ·rcases hs with hs|hs
  ·exact h.Aga hs
  ·exact Af h.Oo h.heap.box.blk (by decide) hs
 ·rcases hs with rfl|hs
  ·exact Af h.heap.row h.On.blk (by decide) hbk
  ·exact h.apart b hs hbk
 ·rcases hm with hm |⟨g,hm,hg⟩
  ·exact h.apart k (hm▸hk) e
  ·rw[hm]at hk;injection hk with hk
   have:=h.lt (.inr (.inr (.inl e)))
   omega
 ·refine h.A5y hc' ?_
  rcases hq with hq|hq
  ·exact h.own q (.inl hq)
  ·rcases Ajd.1 hq with hq|hq
   ·exact h.own q (.inr hq)
   ·obtain rfl:q=p:=by simpa using hq
    exact ho
end
section
open Go.RowKit Go.Sort
attribute [local go_sem ↓] Go.wp_at_zero Go.wp_at_succ
attribute [local go_sem] A7 A5
def Fz (p:Ad):Bool:=decide (0<p.opn) && decide (p.t.deep<10)
def Jd (B:Nat)(w0:World)(rb db hb:Nat)(H D:List Ad)(hv dv:Value)(p:Ad)(w w':World):Prop :=
 ∃H' D' hv' dv',M7 B w0 rb db hb H' D' hv' dv' w'/\Jb E0 H'.length H'.toArray/\Fx (rfS hb db hv dv) w w'/\Kb w hv hv'/\Kb w dv dv' /\
  ((Fz p=true/\H'.Perm (H++[p])/\D'=D) \/(Fz p=false/\H'=H/\D'=D++[p]))
theorem M7.alloc {B:Nat}{w0:World}{rb db hb:Nat}{H D:List Ad}{hv dv:Value}{W:World}(h:M7 B w0 rb db hb H D hv dv W)(o:Obj):M7 B w0 rb db hb H D hv dv (W.alloc o):=h.step ((Aik _ _).alloc (Ai3 _) o)
theorem A19 (B:Nat)(w0:World)(rb db hb:Nat)(H D:List Ad)(hv dv:Value)(p:Ad)(hH:H.length<=500)(hD:D.length<=500)(hok:Jb E0 H.length H.toArray)(w:World)(I:M7 B w0 rb db hb H D hv dv w)(ho:C9 B p.t w) :
 Calls Vp.prog 35 #[.agg (Ag p).toArray,.pointer (some ⟨rb,0,none⟩),.pointer (some ⟨db,0,none⟩)] w fun e w'=>e=.returned (.tuple #[])/\Jd B w0 rb db hb H D hv dv p w w':=by
 have e1:(Ag p).toArray=#[.complex .f32 p.t.cx p.t.cy,.int .i64 p.t.deep,.int .i64 p.t.size,.slice (some ⟨p.t.gs,0,none⟩) p.t.n p.t.cs,.slice (some ⟨p.t.gm,0,none⟩) p.t.n p.t.cm,.string p.path,.int .i64 p.opn]:=rfl;have X:=A8.new w (Ag p).toArray 52;have HI:=Ai1 (I.alloc (.cells (Ag p).toArray 52));have HO:=Ai1 (ho.step X.old);have HB:=Ai1 X.old;rw[e1]at X ⊢;obtain⟨x0,x1,x2,x3,x4,x5,x6⟩:=X.Cv;have HOK:=Ai1 hok;have d0:(w.alloc (.cells (Ag p).toArray 52)).cell? ⟨db,0,none⟩=some dv:=HI.out.On.cell 0 _ rfl;have r0:(w.alloc (.cells (Ag p).toArray 52)).cell? ⟨rb,0,none⟩=some (.pointer (some ⟨hb,0,none⟩)):=HI.out.A1g.cell 0 _ rfl;have g0:=HI.out.On.frozen 0;rw[e1]at d0 r0 g0;clear I ho hok
 by_cases hg:Fz p=true
 ·have hg':=hg;unfold Fz at hg';simp only[Aia,Aiv]at hg';obtain⟨h1,h2⟩:=hg';have f1:decide (0<p.opn)=true:=Aip h1;have f2:decide (p.t.deep<10)=true:=Aip h2;have CP:=Ai1 (A0b w0 hb H hv p hH HOK.out _ HI.out.heap);rw[e1]at CP HI HO HB;have HG:=Ai1 hg;clear h1 h2 hg
  go_enter Vp.func35,Tryz.ntmps35
  go_upto_region 1 with fail
  generalize w.alloc (.cells #[.complex .f32 p.t.cx p.t.cy,.int .i64 p.t.deep,.int .i64 p.t.size,.slice (some ⟨p.t.gs,0,none⟩) p.t.n p.t.cs,.slice (some ⟨p.t.gm,0,none⟩) p.t.n p.t.cm,.string p.path,.int .i64 p.opn] 52)=wa at *
  go_wp2_with fail
  refine CP.out.mono ?_
  rintro e w2 ⟨rfl,H',v',hp,hk,hi,hc,hm⟩
  obtain⟨I2,C2⟩:=HI.out.A9b hi hc hm (fun q hq=>by
   rcases Ajd.1 (hp.mem_iff.1 hq)with h|h
   ·exact HI.out.own q (.inl h)
   ·obtain rfl:q=p:=by simpa using h
    exact HO.out)
  have HR:Hid (Jd B w0 rb db hb H D hv dv p w w2):=⟨H',D,v',dv,I2,hk,(Fx.Aw HB.out).trans C2,hm.imp id fun⟨g,h1,h2⟩=>⟨g,h1,Ai5 HB.out.size h2⟩,.inl rfl,.inl ⟨HG.out,hp,rfl⟩⟩
  clear hi hc hm hp hk I2 C2 CP
  go_wp2
  go_end0
  exact⟨rfl,HR.out⟩
 ·have hg':Fz p=false:=by simpa using hg
  have HG:=Ai1 hg';obtain⟨iT,hiT,hzT0,hzT1,hzT2⟩:=Ajw A52;have hml:D.length+1<=maxLen:=by unfold maxLen;omega
  have HFIN:Hid (∀v' w6,w6.ownsRow w0.heap.size 52 7 v' (D.length+1) (Ao D++Ag p) ->((w.alloc (.cells (Ag p).toArray 52)).alloc (.cells (Ag p).toArray 52)).grownBy w6 dv.ownBlock ->(v'.ownBlock=dv.ownBlock\/v'.ownBlock=some ((w.alloc (.cells (Ag p).toArray 52)).alloc (.cells (Ag p).toArray 52)).heap.size) ->
   Jd B w0 rb db hb H D hv dv p w (w6.setCell ⟨db,0,none⟩ v')/\w6.cell? ⟨db,0,none⟩=some dv/\w6.frozen? ⟨db,0,none⟩=false):=fun v' w6 hown hgrow hmv=>by
   have I3:=HI.out.alloc (.cells (Ag p).toArray 52);have hnd:dv.ownBlock≠some db:=Af I3.Oo I3.On.blk (by decide)
   have B6:=I3.On.grown hgrow hnd (fun k hk=>(Cn I3.Oo hk).1)
   have hb2:Below w.heap.size w ((w.alloc (.cells (Ag p).toArray 52)).alloc (.cells (Ag p).toArray 52)):=HB.out.alloc HB.out.size _;have hm:Kb w dv v':=hmv.imp id fun h=>⟨_,h,hb2.size⟩
   have hm3:Kb ((w.alloc (.cells (Ag p).toArray 52)).alloc (.cells (Ag p).toArray 52)) dv v':=hmv.imp id fun h=>⟨_,h,Ai3 _⟩
   have C6:Fx (fun k=>k=db\/dv.ownBlock=some k) ((w.alloc (.cells (Ag p).toArray 52)).alloc (.cells (Ag p).toArray 52)) (w6.setCell ⟨db,0,none⟩ v'):=(Fx.Np hgrow (fun k hk=>.inr hk)).set (b:=db) (.inl rfl) 0 v'
   obtain⟨I4,C4⟩:=I3.Af0 (B6.set I3.A8z 0 v') (A6 hown B6.blk (by decide) v') C6 hm3 (HO.out.step ((Aik _ _).alloc (Ai3 _) _))
   exact⟨⟨H,D++[p],hv,v',I4,HOK.out,(Fx.Aw hb2).trans C4,.inl rfl,hm,.inr ⟨HG.out,rfl,rfl⟩⟩,B6.cell 0 _ rfl,B6.frozen 0⟩
  have HNW:Hid (∀j u,(Ag p)[j]?=some u ->((w.alloc (.cells (Ag p).toArray 52)).alloc (.cells (Ag p).toArray 52)).cell? ((⟨w.heap.size+1,0,none⟩:Addr).add j)=some u):=fun j u hj=>by
   have X:=A8.new (w.alloc (.cells (Ag p).toArray 52)) (Ag p).toArray 52;rw[Aim]at X;rw[L9,Ak1]
   exact X.cell j u (by rw[<-Ajv];exact hj)
  have HOW:=Ai1 (HI.out.alloc (.cells (Ag p).toArray 52)).Oo;have HSZ:Hid (w0.heap.size <=((w.alloc (.cells (Ag p).toArray 52)).alloc (.cells (Ag p).toArray 52)).heap.size):=((HI.out.alloc (.cells (Ag p).toArray 52)).On.old.size);rw[e1]at HFIN HNW HOW HSZ;have hsz:(w.alloc (.cells #[.complex .f32 p.t.cx p.t.cy,.int .i64 p.t.deep,.int .i64 p.t.size,.slice (some ⟨p.t.gs,0,none⟩) p.t.n p.t.cs,.slice (some ⟨p.t.gm,0,none⟩) p.t.n p.t.cm,.string p.path,.int .i64 p.opn] 52)).heap.size=w.heap.size+1:=Aim _ _;clear X hg hg'
  go_enter Vp.func35,Tryz.ntmps35
  go_upto_region 1 with fail
  generalize w.alloc (.cells #[.complex .f32 p.t.cx p.t.cy,.int .i64 p.t.deep,.int .i64 p.t.size,.slice (some ⟨p.t.gs,0,none⟩) p.t.n p.t.cs,.slice (some ⟨p.t.gm,0,none⟩) p.t.n p.t.cm,.string p.path,.int .i64 p.opn] 52)=wa at *
  have fin:(decide (0<p.opn)=false) \/(decide (0<p.opn)=true/\decide (p.t.deep<10)=false):=by
   have:=HG.out;unfold Fz at this
   cases h:decide (0<p.opn)
   ·exact .inl rfl
   ·rw[h,Al5]at this
    exact .inr ⟨rfl,this⟩
  rcases fin with f1 |⟨f1,f2⟩
  ·go_wp2_with (at_builtin;refine Ds _ rfl _ _ _ rfl w0.heap.size 52 iT _ 7 96 (Vp.Di Tryz.underlying48) hiT hzT0 hzT1 hzT2 rfl (by omega) _ D.length (Ao D) rfl HOW.out ⟨w.heap.size+1,0,none⟩ 1 1 (Ag p) (by rw[<-hsz];rfl) rfl HNW.out (Iz p) hml (by omega) HSZ.out ?_;intro v6 w6 hown6 hgrow6 hmv6;obtain⟨g6,c6,rfl,-,-⟩:=ownsRow_form hown6 (by omega);have H6:=Ai1 (HFIN.out _ _ hown6 hgrow6 hmv6);have k0:=H6.out.2.1;have q0:=H6.out.2.2;clear hown6 hgrow6 hmv6)
   go_end0
   exact⟨rfl,H6.out.1⟩
  ·go_wp2_with (at_builtin;refine Ds _ rfl _ _ _ rfl w0.heap.size 52 iT _ 7 96 (Vp.Di Tryz.underlying48) hiT hzT0 hzT1 hzT2 rfl (by omega) _ D.length (Ao D) rfl HOW.out ⟨w.heap.size+1,0,none⟩ 1 1 (Ag p) (by rw[<-hsz];rfl) rfl HNW.out (Iz p) hml (by omega) HSZ.out ?_;intro v6 w6 hown6 hgrow6 hmv6;obtain⟨g6,c6,rfl,-,-⟩:=ownsRow_form hown6 (by omega);have H6:=Ai1 (HFIN.out _ _ hown6 hgrow6 hmv6);have k0:=H6.out.2.1;have q0:=H6.out.2.2;clear hown6 hgrow6 hmv6)
   go_end0
   exact⟨rfl,H6.out.1⟩
end
section
open Go.RowKit Go.Sort
attribute [local go_sem ↓] Go.wp_at_zero Go.wp_at_succ
theorem wpList_append_run {P:Program}(w w':World){ops:Array Oper}{rest:List Oper}{o:Oper}{a:Act}{Q:Exit->Act->World->Prop}(hgd:o.guard=none)(s x:Operand)(t tn:TypeId)
 (ho:o.op=.call { callee:=.builtin .append,args:=#[s,x],argTypes:=#[t,tn] }) (v u v':Value) (hs:a.eval s=v) (hx:a.eval x=u) (hr:∀ty,(Builtin.append_ #[t,tn] ty #[v,u]).run P w=.ok v' w')
 (h:wpList P ops Q rest (a.put o.dst v') w'):wpList P ops Q (o :: rest) a w:=by
 refine wpList_plain hgd fun K hK=>?_
 unfold Oper.wp execOp;simp only[ho,resolve,invoke,builtin,Akp,Sem.run_pure,Ame,Amb,Ak4,Ald,hs,hx,hr]
 exact hK _ _ h
theorem Ac0 (n:Nat)(h0:0<n)(hn:n<=1000)(w:World) :
 Calls Vp.prog 62 #[.slice none 0 0,.int .i64 n] w fun e w'=>∃cap,e=.returned (.slice (some ⟨w.heap.size,0,none⟩) 0 cap)/\w'.ownsRow w.heap.size 52 7 (.slice (some ⟨w.heap.size,0,none⟩) 0 cap) 0 []/\Below w.heap.size w w':=by
 obtain⟨iT,hiT,hzT0,hzT1,hzT2⟩:=Ajw A52;obtain⟨z,hz⟩:∃z,iT.zero=some z:=⟨_,hzT0⟩;have hzs:z.cells.size=7:=by rw[hzT0]at hz;cases hz;rfl
 obtain⟨G,hG⟩:∃G,grownCap w n 0 52=G:=⟨_,rfl⟩;have hGn:n<=G:=by rw[<-hG];exact grownCap_ge w _ _ _
 have hGm:G<=maxLen:=by rw[<-hG];exact grownCap_le_maxLen w _ _ _ (by unfold maxLen;omega)
 have hrz:∀ty,(Builtin.append_ #[48,3] ty #[.slice none 0 0,.int .i64 n]).run Vp.prog w=.ok (.slice (some ⟨w.heap.size,0,none⟩) n G) (w.drew.alloc (.cells (#[]++Builtin.zeroCells z.cells n++Builtin.zeroCells z.cells (G-n)) 52)):=fun ty=>by
  have h:=Lib.run_append_grow_zeros (P:=Vp.prog) w 48 3 ty 52 iT z .i64 .i64 (Vp.Di Tryz.underlying48) (Vp.Di Tryz.underlying3) hiT hz none 0 0 [] (run_firstCells_none w.drew iT.size 0 0 0) n h0 (by rw[hzT1];omega) (by omega) (by omega) (by rw[hzT2];omega) (by rw[hzT2,Ak1];exact growslice_fits (by omega) (by omega))
  rw[Ak1,hG]at h
  exact h
 have HO:Hid ((w.drew.alloc (.cells (#[]++Builtin.zeroCells z.cells n++Builtin.zeroCells z.cells (G-n)) 52)).ownsRow w.heap.size 52 7 (.slice (some ⟨w.heap.size,0,none⟩) 0 G) 0 []/\Below w.heap.size w (w.drew.alloc (.cells (#[]++Builtin.zeroCells z.cells n++Builtin.zeroCells z.cells (G-n)) 52))):=by
  refine⟨⟨rfl,.inr ⟨w.heap.size,G,_,rfl,Ai3 _,(MapKept.heap_alloc w.drew _).1,by omega,hGm,?_,by simp⟩⟩,((Aq.refl _).drew.below _).alloc (Ai3 _) _⟩
  have hz2:∀k,(Builtin.zeroCells z.cells k).size=k*7:=fun k=>by simp[Builtin.zeroCells,hzs]
  rw[Array.size_append,Array.size_append,hz2,hz2];simp
  omega
 generalize w.drew.alloc (.cells (#[]++Builtin.zeroCells z.cells n++Builtin.zeroCells z.cells (G-n)) 52)=w1 at *;have h1:¬((n:Int)<0):=by omega
 have h3:IntKind.i64.wrap ((n:Int)-0)=(n:Int):=by rw[Int.sub_zero];exact Ajh _ (by omega)
 have h4:(n:Int) > 0:=by omega
 have hG63:(G:Int)<=9223372036854775807:=by unfold maxLen at hGm;omega
 have hGz:(0:Int)<=G:=by omega
 clear hG hz hzs hzT0 hzT1 hzT2 hiT
 go_enter Vp.func62,(Vp.A9v.trans Tryz.ntmps62)
 simp only[Vp.M1,List.contains_cons,List.contains_nil,Nat.reduceBEq,Bool.or_false,Aj8,Alx,Amg]
 go_wp2_with (at_builtin;refine wpList_append_run _ w1 rfl _ _ _ _ rfl (.slice none 0 0) (.int .i64 n) (.slice (some ⟨w.heap.size,0,none⟩) n G) rfl rfl hrz ?_)
 go_ret
 exact⟨G,rfl,HO.out.1,HO.out.2⟩
end
section
open Go.RowKit Go.Sort
attribute [local go_sem ↓] Go.wp_at_zero Go.wp_at_succ
theorem Hy {P:Program}(w w':World){ops:Array Oper}{rest:List Oper}{o:Oper}{a:Act}{Q:Exit->Act->World->Prop}(hgd:o.guard=none)(s x:Operand)(t tn:TypeId)
 (ho:o.op=.call { callee:=.builtin .append,args:=#[s,x],argTypes:=#[t,tn] }) (v u v':Value) (hs:a.eval s=v) (hx:a.eval x=u) (hr:(Builtin.append_ #[t,tn] o.type #[v,u]).run P w=.ok v' w')
 (h:wpList P ops Q rest (a.put o.dst v') w'):wpList P ops Q (o :: rest) a w:=by
 refine wpList_plain hgd fun K hK=>?_
 unfold Oper.wp execOp;simp only[ho,resolve,invoke,builtin,Akp,Sem.run_pure,Ame,Amb,Ak4,Ald,hs,hx,hr]
 exact hK _ _ h
theorem A4p (w:World)(B:Nat)(v:Value)(n:Nat)(xs:List Value)(hn:w.ownsRow B 52 7 v n xs)(hnn:v≠.slice none 0 0)(B':Nat)(u:Value)(M:List Ad)(hu:w.ownsRow B' 52 7 u M.length (Ao M))(h1:n+M.length<=1000)(hB:B<=w.heap.size) :
 ∃v' w',(Builtin.append_ #[48,48] 48 #[v,u]).run Vp.prog w=.ok v' w'/\w'.ownsRow B 52 7 v' (n+M.length) (xs++Ao M)/\w.grownBy w' v.ownBlock/\v'≠.slice none 0 0:=by
 obtain⟨iT,hiT,hzT0,hzT1,hzT2⟩:=Ajw A52;have h63:n+M.length<=maxLen:=by unfold maxLen;omega
 rcases hu.2 with⟨rfl,hm⟩ |⟨g,cap,cur,rfl,h2,h3,h4,h5,h6,h7⟩
 ·have hM:M=[]:=List.length_eq_zero_iff.1 hm;subst hM
  rcases hn.2 with⟨rfl,_⟩ |⟨g,cap,cur,rfl,g2,g3,g4,g5,g6,g7⟩
  ·exact absurd rfl hnn
  ·refine⟨_,w,run_append_nothing (P:=Vp.prog) w 48 48 48 52 iT (Vp.Di Tryz.underlying48) hiT _ n cap g4 _ (Src.ofNil w (Vp.Di Tryz.underlying48) 0),?_,?_,hnn⟩
   ·simpa [Ao]using hn
   ·exact⟨rfl,rfl,rfl,Ai3 _,fun _ _ _=>rfl⟩
 ·obtain⟨v',w',hr,k1,k2,k3,-⟩:=run_append_own_at (P:=Vp.prog) w B 48 48 52 iT _ 7 96 (Vp.Di Tryz.underlying48) hiT hzT0 hzT1 hzT2 rfl (by omega) v n xs hn ⟨g,0,none⟩ M.length cap (Ao M) (Ji M) (fun j x hj=>by
   rw[L9,Ak1];unfold World.cell?;rw[h3];have hl:=(Aii.1 hj).1;rw[Ji]at hl;rw[<-h7,Alw hl,Ajv]at hj
   exact hj) (fun x hx=>by
   obtain⟨p,_,hp⟩:=List.mem_flatMap.1 hx
   exact Iz p x hp) h63 (by omega) hB
  exact⟨v',w',hr,k1,k2,fun e=>hnn (k3.1 e).1⟩
theorem G8 {W:World}{B n:Nat}{v:Value}{xs:List Value}(h:W.ownsRow B 52 7 v n xs):∃a c,v=.slice a n c:=by
 rcases h.2 with⟨rfl,rfl⟩ |⟨g,cap,cur,rfl,_⟩
 ·exact⟨_,_,rfl⟩
 ·exact⟨_,_,rfl⟩
theorem A1j {W:World}{B n:Nat}{v:Value}{xs:List Value}(h:W.ownsRow B 52 7 v n xs)(hn:v≠.slice none 0 0):∃g c,v=.slice (some ⟨g,0,none⟩) n c:=by
 rcases h.2 with⟨rfl,rfl⟩ |⟨g,cap,cur,rfl,_⟩
 ·exact absurd rfl hn
 ·exact⟨_,_,rfl⟩
def Fe (A M:List Ad):Nat->List Ad
 | 0=>[]
 | 1=>A
 | _=>A++M
theorem V9 (sb cs:Nat)(A M:List Ad)(av mv:Value)(hA:0<A.length+M.length)(hB:A.length+M.length<=900)(w:World)(c0:w.cell? ⟨sb,0,none⟩=some av)(c1:w.cell? ⟨sb,1,none⟩=some mv)(B:Nat)(ha:w.ownsRow B 52 7 av A.length (Ao A))(hm:w.ownsRow B 52 7 mv M.length (Ao M)) :
 Calls Vp.prog 40 #[.slice (some ⟨sb,0,none⟩) 2 cs] w fun e w'=>∃v,e=.returned v/\w'.ownsRow w.heap.size 52 7 v (A.length+M.length) (Ao (A++M))/\Below w.heap.size w w':=by
 have HA:=Ai1 ha;have HM:=Ai1 hm;obtain⟨a1,a2,rfl⟩:=G8 ha;obtain⟨m1,m2,rfl⟩:=G8 hm;have HC0:=Ai1 c0;have HC1:=Ai1 c1;obtain⟨na,hna⟩:∃na,A.length=na:=⟨_,rfl⟩;obtain⟨nm,hnm⟩:∃nm,M.length=nm:=⟨_,rfl⟩;have HNA:=Ai1 hna;have HNM:=Ai1 hnm;rw[hna,hnm]at hA hB ⊢;rw[hna]at c0 HA HC0;rw[hnm]at c1 HM HC1;have e1:IntKind.i64.wrap (0 +(na:Int))=(na:Int):=by rw[Int.zero_add];exact Ajh _ (by omega)
 have e2:IntKind.i64.wrap ((na:Int) +(nm:Int))=(na:Int) +(nm:Int):=Ajh _ (by omega)
 clear ha hm hna hnm
 go_enter Vp.func40,(Vp.A9u.trans Tryz.ntmps40)
 simp only[Vp.M1,List.contains_cons,List.contains_nil,Nat.reduceBEq,Bool.or_false,Aj8,Alx,Amg]
 go_wp2
 go_loopw [3,11] (fun sv kv wr=>wr=w /\((kv=.int .i64 0/\sv=.int .i64 0) \/(kv=.int .i64 1/\sv=.int .i64 na) \/(kv=.int .i64 2/\sv=.int .i64 ((na:Int)+nm)))) (fun _ kv _=>2-(intOf kv).toNat)
 case atStart=>exact⟨rfl,.inl ⟨rfl,rfl⟩⟩
 case round =>
  obtain⟨hw,hrel⟩:=hrel;replace hw:=hw.symm;subst hw
  rcases hrel with⟨rfl,rfl⟩ |⟨rfl,rfl⟩ |⟨rfl,rfl⟩
  ·have f1:¬((na:Int)<0):=by omega
   go_wp2
   go_roundw
   case rel=>exact⟨trivial,.inr (.inl ⟨by go_num,rfl⟩)⟩
   case measure=>simp[intOf]
  ·have f1:¬((na:Int)+nm<0):=by omega
   go_wp2
   go_roundw
   case rel=>exact⟨trivial,.inr (.inr ⟨by go_num,rfl⟩)⟩
   case measure=>simp[intOf]
  ·have CG:=Ai1 (Ac0 (na+nm) hA (by omega) w)
   rw[show((na+nm:Nat):Int)=(na:Int)+nm by omega]at CG
   clear e1 e2
   go_wp2_with fail
   refine CG.out.mono ?_
   rintro e w1 ⟨cap,rfl,ho,hb⟩;have HO:=Ai1 ho;have HB:=Ai1 hb;clear CG ho hb c0 c1
   go_wp2
   go_loopw [6,27] (fun rv kv w2=>∃k g c,k<=2/\kv=.int .i64 (k:Nat)/\rv=.slice (some ⟨g,0,none⟩) (Fe A M k).length c/\Hid (Below w.heap.size w w2)/\Hid (w2.ownsRow w.heap.size 52 7 (.slice (some ⟨g,0,none⟩) (Fe A M k).length c) (Fe A M k).length (Ao (Fe A M k)))) (fun _ kv _=>2-(intOf kv).toNat)
   case atStart=>exact⟨0,_,_,by omega,rfl,rfl,HB.out,HO.out⟩
   case round =>
    obtain⟨k,g,c,hk,rfl,rfl,HBB,HOO⟩:=hrel;have HC0':=Ai1 ((HBB.out.cell (p:=⟨sb,0,none⟩) (Aix w _ HC0.out)).trans HC0.out);have HC1':=Ai1 ((HBB.out.cell (p:=⟨sb,1,none⟩) (Aix w _ HC1.out)).trans HC1.out)
    rcases(show k=0\/k=1\/k=2 by omega)with rfl|rfl|rfl
    ·have c0:=HC0'.out;obtain⟨v',w3,hr,h1,h2,h3⟩:=A4p _ _ _ _ _ HOO.out (by simp) B (.slice a1 na a2) A (by have:=Ab HA.out HBB.out;rwa [HNA.out]) (by have:=HNA.out;simp only[Fe,An4];omega) HBB.out.size
     obtain⟨g3,c3,hv3⟩:=A1j h1 h3;have H3:=Ai1 (And.intro h1 (HBB.out.grown h2 HBB.out.size (fun j hj=>(Cn HOO.out hj).1)))
     clear h1 h2 h3
     go_wp2_with (at_builtin;refine Hy _ w3 rfl _ _ _ _ rfl _ (.slice a1 na a2) v' rfl rfl hr ?_)
     go_roundw
     case rel =>
      have h1:=H3.out.1;have e:(Fe A M 0).length+A.length=(Fe A M 1).length:=by simp[Fe]
      have e2:Ao (Fe A M 0)++Ao A=Ao (Fe A M 1):=by simp[Fe,Ao]
      rw[e,e2]at h1;rw[e]at hv3
      exact⟨1,g3,c3,by omega,by go_num,by rw[e],H3.out.2,by rw[<-hv3];exact h1⟩
     case measure=>simp[intOf]
    ·have c1:=HC1'.out;obtain⟨v',w3,hr,h1,h2,h3⟩:=A4p _ _ _ _ _ HOO.out (by simp) B (.slice m1 nm m2) M (by have:=Ab HM.out HBB.out;rwa [HNM.out]) (by have:=HNA.out;have:=HNM.out;simp only[Fe];omega) HBB.out.size
     obtain⟨g3,c3,hv3⟩:=A1j h1 h3;have H3:=Ai1 (And.intro h1 (HBB.out.grown h2 HBB.out.size (fun j hj=>(Cn HOO.out hj).1)))
     clear h1 h2 h3
     go_wp2_with (at_builtin;refine Hy _ w3 rfl _ _ _ _ rfl _ (.slice m1 nm m2) v' rfl rfl hr ?_)
     go_roundw
     case rel =>
      have h1:=H3.out.1;have e:(Fe A M 1).length+M.length=(Fe A M 2).length:=by simp[Fe]
      have e2:Ao (Fe A M 1)++Ao M=Ao (Fe A M 2):=by simp[Fe,Ao]
      rw[e,e2]at h1;rw[e]at hv3
      exact⟨2,g3,c3,by omega,by go_num,by rw[e],H3.out.2,by rw[<-hv3];exact h1⟩
     case measure=>simp[intOf]
    ·go_wp2
     go_ret
     refine⟨_,rfl,?_,HBB.out⟩
     have h1:=HOO.out;have e:(Fe A M 2).length=na+nm:=by rw[<-HNA.out,<-HNM.out];simp[Fe]
     rw[e]at h1 ⊢
     exact h1
end
section
open Go.Shelf Go.Proofs
def Agx:Ren where
 f:=fun x=>match x with|6=>41|15=>64|14=>63|28=>90|29=>91|20=>82|21=>83|22=>84|23=>85|24=>86|25=>87|26=>88|27=>89|46=>116|47=>117|48=>118|49=>119|50=>120|57=>136|n=>n
 t:=fun x=>match x with|22=>48|24=>52|25=>91|3=>3|39=>120|0=>0|53=>145|55=>147|4=>4|46=>139|45=>138|50=>65|5=>5|9=>9|66=>171|70=>175|76=>188|77=>151|n=>n
 g:=fun n=>n
theorem Ahv:SlLaysF0.n6 Vp.prog Agx where
 mixed:=by kernel_rfl
 f6 := ⟨ "slices.SortFunc[[]loop.example/quadraticorbits/impl.planTile,loop.example/quadraticorbits/impl.planTile]", by decide,Vp.func41.trans (by kernel_rfl)⟩
 f14 := ⟨ "slices.pdqsortCmpFunc[loop.example/quadraticorbits/impl.planTile]", by decide,Vp.func63.trans (by kernel_rfl)⟩
 f15:=Vp.func64.trans (by kernel_rfl)
 f20 := ⟨ "slices.insertionSortCmpFunc[loop.example/quadraticorbits/impl.planTile]", by decide,Vp.func82.trans (by kernel_rfl)⟩
 f21 := ⟨ "slices.heapSortCmpFunc[loop.example/quadraticorbits/impl.planTile]", by decide,Vp.func83.trans (by kernel_rfl)⟩
 f22 := ⟨ "slices.breakPatternsCmpFunc[loop.example/quadraticorbits/impl.planTile]", by decide,Vp.func84.trans (by kernel_rfl)⟩
 f23 := ⟨ "slices.choosePivotCmpFunc[loop.example/quadraticorbits/impl.planTile]", by decide,Vp.func85.trans (by kernel_rfl)⟩
 f24 := ⟨ "slices.reverseRangeCmpFunc[loop.example/quadraticorbits/impl.planTile]", by decide,Vp.func86.trans (by kernel_rfl)⟩
 f25 := ⟨ "slices.partialInsertionSortCmpFunc[loop.example/quadraticorbits/impl.planTile]", by decide,Vp.func87.trans (by kernel_rfl)⟩
 f26 := ⟨ "slices.partitionEqualCmpFunc[loop.example/quadraticorbits/impl.planTile]", by decide,Vp.func88.trans (by kernel_rfl)⟩
 f27 := ⟨ "slices.partitionCmpFunc[loop.example/quadraticorbits/impl.planTile]", by decide,Vp.func89.trans (by kernel_rfl)⟩
 f28:=Vp.func90.trans (by kernel_rfl)
 f29:=Vp.func91.trans (by kernel_rfl)
 f46 := ⟨ "slices.siftDownCmpFunc[loop.example/quadraticorbits/impl.planTile]", by decide,Vp.func116.trans (by kernel_rfl)⟩
 f47:=Vp.func117.trans (by kernel_rfl)
 f48:=Vp.func118.trans (by kernel_rfl)
 f49 := ⟨ "slices.medianAdjacentCmpFunc[loop.example/quadraticorbits/impl.planTile]", by decide,Vp.func119.trans (by kernel_rfl)⟩
 f50 := ⟨ "slices.medianCmpFunc[loop.example/quadraticorbits/impl.planTile]", by decide,Vp.func120.trans (by kernel_rfl)⟩
 f57 := ⟨ "slices.order2CmpFunc[loop.example/quadraticorbits/impl.planTile]", by decide,Vp.func136.trans (by kernel_rfl)⟩
 t0:=Vp.Di Tryz.underlying0
 a0:=fun w=>(Vp.Bl _ w).trans (Tryz.isAgg0 w)
 z0:=fun w=>(Vp.run_sizeOf _ w).trans (Tryz.sizeOf0 w)
 v0:=fun w=>(Vp.Aj _ w).trans (Tryz.zeroValue0 w)
 t3:=Vp.Di Tryz.underlying3
 a3:=fun w=>(Vp.Bl _ w).trans (Tryz.isAgg3 w)
 z3:=fun w=>(Vp.run_sizeOf _ w).trans (Tryz.sizeOf3 w)
 v3:=fun w=>(Vp.Aj _ w).trans (Tryz.zeroValue3 w)
 t4:=Vp.Di Tryz.underlying4
 a4:=fun w=>(Vp.Bl _ w).trans (Tryz.isAgg4 w)
 z4:=fun w=>(Vp.run_sizeOf _ w).trans (Tryz.sizeOf4 w)
 v4:=fun w=>(Vp.Aj _ w).trans (Tryz.zeroValue4 w)
 t5:=Vp.Di Tryz.underlying5
 a5:=fun w=>(Vp.Bl _ w).trans (Tryz.isAgg5 w)
 z5:=fun w=>(Vp.run_sizeOf _ w).trans (Tryz.sizeOf5 w)
 v5:=fun w=>(Vp.Aj _ w).trans (Tryz.zeroValue5 w)
 t9:=Vp.Di Tryz.underlying9
 a9:=fun w=>(Vp.Bl _ w).trans (Tryz.isAgg9 w)
 z9:=fun w=>(Vp.run_sizeOf _ w).trans (Tryz.sizeOf9 w)
 v9:=fun w=>(Vp.Aj _ w).trans (Tryz.zeroValue9 w)
 t22:=Vp.Di Tryz.underlying48
 a22:=fun w=>(Vp.Bl _ w).trans (Tryz.isAgg48 w)
 z22:=fun w=>(Vp.run_sizeOf _ w).trans (Tryz.sizeOf48 w)
 v22:=fun w=>(Vp.Aj _ w).trans (Tryz.zeroValue48 w)
 t25:=Vp.Di Tryz.underlying91
 a25:=fun w=>(Vp.Bl _ w).trans (Tryz.isAgg91 w)
 z25:=fun w=>(Vp.run_sizeOf _ w).trans (Tryz.sizeOf91 w)
 v25:=fun w=>(Vp.Aj _ w).trans (Tryz.zeroValue91 w)
 t39:=Vp.Di Tryz.underlying120
 a39:=fun w=>(Vp.Bl _ w).trans (Tryz.isAgg120 w)
 z39:=fun w=>(Vp.run_sizeOf _ w).trans (Tryz.sizeOf120 w)
 v39:=fun w=>(Vp.Aj _ w).trans (Tryz.zeroValue120 w)
 t45:=Vp.Di Tryz.underlying138
 a45:=fun w=>(Vp.Bl _ w).trans (Tryz.isAgg138 w)
 z45:=fun w=>(Vp.run_sizeOf _ w).trans (Tryz.sizeOf138 w)
 v45:=fun w=>(Vp.Aj _ w).trans (Tryz.zeroValue138 w)
 t46:=Vp.Di Tryz.underlying139
 a46:=fun w=>(Vp.Bl _ w).trans (Tryz.isAgg139 w)
 z46:=fun w=>(Vp.run_sizeOf _ w).trans (Tryz.sizeOf139 w)
 v46:=fun w=>(Vp.Aj _ w).trans (Tryz.zeroValue139 w)
 t50:=Vp.Di Tryz.underlying65
 a50:=fun w=>(Vp.Bl _ w).trans (Tryz.isAgg65 w)
 z50:=fun w=>(Vp.run_sizeOf _ w).trans (Tryz.sizeOf65 w)
 v50:=fun w=>(Vp.Aj _ w).trans (Tryz.zeroValue65 w)
 t53:=Vp.Di Tryz.underlying145
 a53:=fun w=>(Vp.Bl _ w).trans (Tryz.isAgg145 w)
 z53:=fun w=>(Vp.run_sizeOf _ w).trans (Tryz.sizeOf145 w)
 v53:=fun w=>(Vp.Aj _ w).trans (Tryz.zeroValue145 w)
 t55:=Vp.Di Tryz.underlying147
 a55:=fun w=>(Vp.Bl _ w).trans (Tryz.isAgg147 w)
 z55:=fun w=>(Vp.run_sizeOf _ w).trans (Tryz.sizeOf147 w)
 v55:=fun w=>(Vp.Aj _ w).trans (Tryz.zeroValue147 w)
 t66:=Vp.Di Tryz.underlying171
 a66:=fun w=>(Vp.Bl _ w).trans (Tryz.isAgg171 w)
 z66:=fun w=>(Vp.run_sizeOf _ w).trans (Tryz.sizeOf171 w)
 v66:=fun w=>(Vp.Aj _ w).trans (Tryz.zeroValue171 w)
 t70:=Vp.Di Tryz.underlying175
 a70:=fun w=>(Vp.Bl _ w).trans (Tryz.isAgg175 w)
 z70:=fun w=>(Vp.run_sizeOf _ w).trans (Tryz.sizeOf175 w)
 v70:=fun w=>(Vp.Aj _ w).trans (Tryz.zeroValue175 w)
 t76:=Vp.Di Tryz.underlying188
 a76:=fun w=>(Vp.Bl _ w).trans (Tryz.isAgg188 w)
 z76:=fun w=>(Vp.run_sizeOf _ w).trans (Tryz.sizeOf188 w)
 v76:=fun w=>(Vp.Aj _ w).trans (Tryz.zeroValue188 w)
 t77:=Vp.Di Tryz.underlying151
 a77:=fun w=>(Vp.Bl _ w).trans (Tryz.isAgg151 w)
 z77:=fun w=>(Vp.run_sizeOf _ w).trans (Tryz.sizeOf151 w)
 v77:=fun w=>(Vp.Aj _ w).trans (Tryz.zeroValue151 w)
end
section
open Go.RowKit Go.Sort Go.Shelf
attribute [local go_sem ↓] Go.wp_at_zero Go.wp_at_succ
def A8q (x y:ByteArray):Int:=if Op.bytesLess x.toList y.toList=true then -1 else if Op.bytesLess y.toList x.toList=true then 1 else 0
def A2p (a b:Ad):Int:=A8q a.path b.path
theorem Zg {x y:List UInt8}(h:Op.bytesLess x y=false)(g:Op.bytesLess y x=false):x=y:=by
 rw[bytesLess_eq]at *;simp only[Amu,List.not_lt]at *
 exact List.le_antisymm g h
theorem Ae5 (x y:List UInt8):(!(Op.bytesLess x y || x == y))=Op.bytesLess y x:=by
 cases h:Op.bytesLess x y with
 | true =>
   cases g:Op.bytesLess y x with
   | true =>
     have:=Na h g;rw[Iw]at this
     cases this
   | false=>rfl
 | false =>
   cases g:Op.bytesLess y x with
   | true =>
     have:(x == y)=false:=by
      rw[beq_eq_false_iff_ne];rintro rfl;rw[Iw]at g
      cases g
     rw[this];rfl
   | false =>
     rw[Zg h g];simp
theorem Nk (a b:Ad):ltOf A2p a b=Op.bytesLess a.path.toList b.path.toList:=by
 unfold ltOf A2p A8q
 cases h:Op.bytesLess a.path.toList b.path.toList with
 | true=>simp
 | false =>
   cases g:Op.bytesLess b.path.toList a.path.toList<;>simp
theorem Ahw:SWO (ltOf A2p) where
 irrefl x:=by rw[Nk];exact Iw _
 trans x y z h g:=by rw[Nk]at *;exact Na h g
 ntrans x y z h g:=by rw[Nk]at *;exact V5 h g
theorem A0u (x:ByteArray)(w:World):Calls Vp.prog 65 #[.string x] w fun e w'=>e=.returned (.bool false)/\w'=w:=by
 go_enter Vp.func65,Tryz.ntmps65
 go_wp2
 go_ret
 exact⟨by simp,rfl⟩
theorem A2s (x y:ByteArray)(w:World):Calls Vp.prog 43 #[.string x,.string y] w fun e w'=>e=.returned (.int .i64 (A8q x y))/\w'=w:=by
 have N1:=A0u x w;have N2:=A0u y w;have g:=Ae5 x.toList y.toList;unfold A8q
 cases h:Op.bytesLess x.toList y.toList with
 | true =>
   rw[Aij rfl];clear g
   go_enter Vp.func43,Tryz.ntmps43
   go_wp2_with fail
   refine N1.mono ?_
   rintro e w' ⟨rfl,rfl⟩
   go_wp2_with fail
   refine N2.mono ?_
   rintro e w' ⟨rfl,rfl⟩
   go_wp2
   go_ret
   exact⟨rfl,rfl⟩
 | false =>
   rw[h]at g;rw[Aid (by simp)]
   cases h2:Op.bytesLess y.toList x.toList with
   | true =>
     rw[h2]at g;replace g:(x.toList == y.toList)=false:=by simpa using g
     rw[Aij rfl]
     go_enter Vp.func43,Tryz.ntmps43
     go_wp2_with fail
     refine N1.mono ?_
     rintro e w' ⟨rfl,rfl⟩
     go_wp2_with fail
     refine N2.mono ?_
     rintro e w' ⟨rfl,rfl⟩
     go_wp2
     go_ret
     exact⟨rfl,rfl⟩
   | false =>
     rw[h2]at g;replace g:(x.toList == y.toList)=true:=by simpa using g
     rw[Aid (by simp)]
     go_enter Vp.func43,Tryz.ntmps43
     go_wp2_with fail
     refine N1.mono ?_
     rintro e w' ⟨rfl,rfl⟩
     go_wp2_with fail
     refine N2.mono ?_
     rintro e w' ⟨rfl,rfl⟩
     go_wp2
     go_ret
     exact⟨rfl,rfl⟩
theorem A2q (a b:Ad)(w:World):Calls Vp.prog 42 #[.agg (Ag a).toArray,.agg (Ag b).toArray] w fun e w'=>e=.returned (.int .i64 (A2p a b))/\Grn w w':=by
 have e1:(Ag a).toArray=#[.complex .f32 a.t.cx a.t.cy,.int .i64 a.t.deep,.int .i64 a.t.size,.slice (some ⟨a.t.gs,0,none⟩) a.t.n a.t.cs,.slice (some ⟨a.t.gm,0,none⟩) a.t.n a.t.cm,.string a.path,.int .i64 a.opn]:=rfl;have e2:(Ag b).toArray=#[.complex .f32 b.t.cx b.t.cy,.int .i64 b.t.deep,.int .i64 b.t.size,.slice (some ⟨b.t.gs,0,none⟩) b.t.n b.t.cs,.slice (some ⟨b.t.gm,0,none⟩) b.t.n b.t.cm,.string b.path,.int .i64 b.opn]:=rfl;have X:=(A8.new w (Ag a).toArray 52).alloc (.cells (Ag b).toArray 52);have Y:=A8.new (w.alloc (.cells (Ag a).toArray 52)) (Ag b).toArray 52;rw[Aim]at Y;rw[e1,e2]at X Y ⊢;have x5:=X.cell 5 _ rfl;have y5:=Y.cell 5 _ rfl;clear X Y;have HG:Hid (∀o1 o2:Obj,Grn w ((w.alloc o1).alloc o2)):=fun o1 o2=>⟨0,#[o1,o2],by rw[alloc_eq_grow,alloc_eq_grow,grow_grow];rfl⟩
 have C:=fun W:World=>A2s a.path b.path W
 rw[show A8q a.path b.path=A2p a b from rfl]at C;generalize A2p a b=r at *
 go_enter Vp.func42,Tryz.ntmps42
 go_wp2_with fail
 refine(C _).mono ?_
 rintro e w' ⟨rfl,rfl⟩
 go_wp2
 go_ret
 exact⟨rfl,HG.out _ _⟩
end
section
open Go.RowKit Go.Sort Go.Shelf
attribute [local go_sem ↓] Go.wp_at_zero Go.wp_at_succ
theorem A4v (p:Ad)(j:Nat)(hj:j<7):(Ag p)[j]?=some (Ag p)[j]!:=by
 have h:j <(Ag p).length:=by rw[Fh];exact hj
 rw[Aig h,Aks (Ag p) j h]
theorem Dm.holds {g cap:Nat}{d:Array Ad}{w:World}(h:Dm g cap d w):HoldsK Ag 7 w g 0 d:=by
 intro t ht;rw[size_flatK]at ht;have hk:t / 7<d.size:=by omega
 have hj:t % 7<7:=Akz _ (by decide)
 refine⟨?_,h.free _⟩
 have:=h.cell hk (j:=t % 7) (v:=(Ag d[t / 7]!)[t % 7]!) (A4v _ _ hj);rw[show t / 7*7+t % 7=t by omega]at this
 rw[Ak1,this,get_flatK Ag 7 d t ht]
 rfl
theorem A1u {w:World}{g n:Nat}{d:Array Ad}{os:Array Obj}{k:Nat}(hk:k<w.heap.size)(hne:k≠g):(sortWorldK Ag 7 w g 0 n d os).heap[k]?=w.heap[k]?:=by
 show((w.heap.modify g _)++os)[k]?=_
 rw[Alk (by rw[Array.size_modify];exact hk),Array.getElem?_modify,Aid (Akx hne)]
theorem A7h {w:World}{g n:Nat}{d:Array Ad}{os:Array Obj}{cur:Array Value}{T:TypeId}{f:Nat×Nat}(h:w.heap[g]?=some (.cells cur T f)):∃cur',(sortWorldK Ag 7 w g 0 n d os).heap[g]?=some (.cells cur' T f)/\cur'.size=cur.size:=by
 have hlt:=(Ai2.1 h).1
 refine⟨putCells id 0 (flatK Ag 7 d) cur,?_,by simp[putCells]⟩
 show((w.heap.modify g _)++os)[g]?=_
 rw[Alk (by rw[Array.size_modify];exact hlt),Array.getElem?_modify,Aij rfl,h]
 rfl
theorem Dm.sorted {g cap n:Nat}{d d':Array Ad}{os:Array Obj}{w:World}(h:Dm g cap d w)(hs:d'.size=d.size):Dm g cap d' (sortWorldK Ag 7 w g 0 n d' os)/\By g w (sortWorldK Ag 7 w g 0 n d' os):=by
 have hh:=holdsK_sortWorldK Ag 7 w g 0 n d d' os h.lt h.holds hs;obtain⟨cur,h1,h2,h3,h4⟩:=h;obtain⟨cur',c1,c2⟩:=A7h (n:=n) (d:=d') (os:=os) h1
 refine⟨⟨cur',c1,c2.trans h2,by omega,fun k hk j hj=>?_⟩,⟨rfl,rfl,rfl,?_,fun k hk hne=>A1u hk hne⟩⟩
 ·have e:=A4v d'[k]! j hj;have hc:=(hh.cell hk hj).1;unfold World.cell? at hc;rw[c1]at hc;rw[e]
  simpa using hc
 ·show w.heap.size <=((w.heap.modify g _)++os).size
  simp
theorem A5p (B g cap n:Nat)(L:List Ad)(hL:L.length=n)(hn:n<=1000)(w:World)(h:w.ownsRow B 52 7 (.slice (some ⟨g,0,none⟩) n cap) n (Ao L)) :
 Calls Vp.prog 41 #[.slice (some ⟨g,0,none⟩) n cap,.func (.func 42) #[] #[]] w fun e w'=>e=.returned (.tuple #[]) /\
  ∃L',L'.Perm L/\L'.length=n /\(∀i j,i<j->j<n->Op.bytesLess (L'.toArray[j]!).path.toList (L'.toArray[i]!).path.toList=false)/\w'.ownsRow B 52 7 (.slice (some ⟨g,0,none⟩) n cap) n (Ao L')/\By g w w':=by
 obtain⟨R,hB,hc⟩:=Gi (d:=L.toArray) (by simpa using h) (by simpa using hL)
 have hsz:L.toArray.size=n:=by simpa using hL
 have key:=AnyQ.slices_SortFunc (P:=Vp.prog) (ρ:=Agx) Ahv 7 (fun w=>(Vp.Bl _ w).trans (Tryz.isAgg52 w)) (fun w=>(Vp.run_sizeOf _ w).trans (Tryz.sizeOf52 w)) Ag Fh Iz A2p Ahw 42 #[] g 0 cap L.toArray w
  (fun args w=>Vp.call42 args w) (fun m os dk hs x y=>by
   refine(A2q x y _).mono ?_
   rintro e w' ⟨rfl,q,os',rfl⟩
   exact⟨rfl,q,os',rfl⟩) R.holds R.lt (by rw[hsz];omega)
 rw[hsz]at key
 refine key.mono ?_
 rintro e w' ⟨rfl,d',m,os,hp,hsd,rfl⟩;have hs':d'.size=L.toArray.size:=hp.1;obtain⟨R',O'⟩:=R.sorted (n:=m) (os:=os) hs'
 refine⟨rfl,d'.toList,?_,by rw[Ajn,hs',hsz],fun i j hij hj=>?_,?_,O'⟩
 ·have h2:=hp.2.2;rw[show d'.extract 0 n=d'.extract 0 d'.size by rw[hs',hsz],Lg,<-hsz,Lg]at h2
  exact h2
 ·have:=hsd i j (Aj9 _) hij hj;rw[Nk]at this
  simpa using this
 ·have:=Ig R' hB hc n (by omega)
  rwa [Ajz (by rw[Ajn];omega)]at this
end
section
structure He where
 opn:List UInt8->Int
 deep:List UInt8->Int
 sp:List UInt8->Prop
def He.Cd (E:He)(p:List UInt8):Prop:=0<E.opn p/\E.deep p<10
def He.ahead (E:He)(p q:List UInt8):Prop:=E.opn q<E.opn p \/(E.opn p=E.opn q/\Op.bytesLess p q=true)
structure He.Q9 (E:He)(G:List (List UInt8))(p:List UInt8):Prop where
 mem:p∈G
 Cd:E.Cd p
 Ae4:∀q,q∈G->E.Cd q->q=p\/E.ahead p q
def kids (p:List UInt8):List (List UInt8):=[p++[48],p++[49],p++[50],p++[51]]
inductive He.Gk (E:He):Nat->List (List UInt8)->Option (List (List UInt8))->Prop
 | zero (G:List (List UInt8)):Gk E 0 G (some G)
 | stop (n:Nat) (G:List (List UInt8)):(∀p,p∈G->¬E.Cd p)->Gk E n G (some G)
 | fail (n:Nat) (G:List (List UInt8)) (p:List UInt8):E.Q9 G p->¬E.sp p->Gk E (n+1) G none
 | step (n:Nat) (G G1:List (List UInt8)) (p:List UInt8) (r:Option (List (List UInt8))):E.Q9 G p->E.sp p->G1.Perm (kids p++G.erase p)->Gk E n G1 r->Gk E (n+1) G r
def Ef:Option (List (List UInt8))->Option (List (List UInt8))->Prop
 | none,none=>True
 | some a,some b=>a.Perm b
 | _,_=>False
theorem He.Q9.perm {E:He}{G H:List (List UInt8)}{p:List UInt8}(h:E.Q9 G p)(k:G.Perm H):E.Q9 H p:=⟨k.mem_iff.1 h.mem,h.Cd,fun q hq=>h.Ae4 q (k.mem_iff.2 hq)⟩
theorem He.A8l {E:He}{p q:List UInt8}(h:E.ahead p q)(g:E.ahead q p):False:=by
 rcases h with h |⟨h,h2⟩<;>rcases g with g |⟨g,g2⟩
 ·omega
 ·omega
 ·omega
 ·have:=Na h2 g2;rw[Iw]at this
  cases this
theorem He.Q9.uniq {E:He}{G:List (List UInt8)}{p q:List UInt8}(h:E.Q9 G p)(k:E.Q9 G q):q=p:=by
 rcases h.Ae4 q k.mem k.Cd with e|e
 ·exact e
 ·rcases k.Ae4 p h.mem h.Cd with f|f
  ·exact f.symm
  ·exact(E.A8l e f).elim
theorem He.Gk.det {E:He}{n:Nat}{G:List (List UInt8)}{r:Option (List (List UInt8))}(h:E.Gk n G r):∀{H:List (List UInt8)} {r':Option (List (List UInt8))},G.Perm H->E.Gk n H r'->Ef r r':=by
 induction h with
 | zero G =>
   intro H r' hp k
   cases k with
   | zero=>exact hp
   | stop=>exact hp
 | stop n G hg =>
   intro H r' hp k
   cases k with
   | zero=>exact hp
   | stop=>exact hp
   | fail n _ p hk _=>exact absurd hk.Cd (hg p (hp.mem_iff.2 hk.mem))
   | step n _ _ p r hk _ _ _=>exact absurd hk.Cd (hg p (hp.mem_iff.2 hk.mem))
 | fail n G p hk hs =>
   intro H r' hp k
   cases k with
   | stop _ _ hg=>exact absurd hk.Cd (hg p (hp.mem_iff.1 hk.mem))
   | fail=>trivial
   | step _ _ _ q _ hk' hs' =>
     obtain rfl:=(hk.perm hp).uniq hk'
     exact absurd hs' hs
 | step n G G1 p r hk hs h1 h2 ih =>
   intro H r' hp k
   cases k with
   | stop _ _ hg=>exact absurd hk.Cd (hg p (hp.mem_iff.1 hk.mem))
   | fail _ _ q hk' hs' =>
     obtain rfl:=(hk.perm hp).uniq hk'
     exact absurd hs hs'
   | step _ _ H1 q _ hk' hs' g1 g2 =>
     obtain rfl:=(hk.perm hp).uniq hk'
     exact ih (h1.trans ((Am9 _ (hp.erase q)).trans g1.symm)) g2
def Left (p q:List UInt8):Prop:=∃(c:List UInt8) (a b:UInt8) (r s:List UInt8),p=c++a :: r/\q=c++b :: s/\a<b
theorem Left.on {p q:List UInt8}(h:Left p q)(x y:List UInt8):Left (p++x) (q++y):=by
 obtain⟨c,a,b,r,s,rfl,rfl,hl⟩:=h
 exact⟨c,a,b,r++x,s++y,by simp,by simp,hl⟩
theorem Left.less {p q:List UInt8}(h:Left p q):Op.bytesLess p q=true:=by
 obtain⟨c,a,b,r,s,rfl,rfl,hl⟩:=h
 induction c with
 | nil=>simp[Op.bytesLess,hl]
 | cons x c ih =>
   rw[Akg,Akg];unfold Op.bytesLess;rw[ih];simp
theorem A6v (p:List UInt8):(kids p).Pairwise Left:=by
 have h:∀a b:UInt8,a<b->Left (p++[a]) (p++[b]):=fun a b hl=>⟨p,a,b,[],[],rfl,rfl,hl⟩
 unfold kids;simp only[List.pairwise_cons,Ajf,Aja,Akv,List.Pairwise.nil,and_true]
 refine⟨?_,?_,?_,?_⟩
 ·rintro q (rfl|rfl|rfl)<;>exact h _ _ (by decide)
 ·rintro q (rfl|rfl)<;>exact h _ _ (by decide)
 ·rintro q rfl;exact h _ _ (by decide)
 ·intro q hq;exact hq.elim
theorem A3d {A B:List (List UInt8)}{p:List UInt8}(h:(A++p :: B).Pairwise Left):(A++kids p++B).Pairwise Left:=by
 rw[List.pairwise_append]at h;obtain⟨hA,hB,hAB⟩:=h;rw[List.pairwise_cons]at hB
 have hk:∀k,k∈kids p->∃a,k=p++[a]:=fun k hk=>by
  unfold kids at hk;simp only[Ajf,Aja,Akv]at hk
  rcases hk with rfl|rfl|rfl|rfl<;>exact⟨_,rfl⟩
 rw[List.pairwise_append]
 refine⟨?_,hB.2,fun a ha b hb=>?_⟩
 ·rw[List.pairwise_append]
  refine⟨hA,A6v p,fun a ha k hk'=>?_⟩
  obtain⟨x,rfl⟩:=hk k hk';have:=(hAB a ha p (by simp)).on [] [x]
  rwa [Aly]at this
 ·rcases Ajd.1 ha with ha|ha
  ·exact hAB a ha b (by simp[hb])
  ·obtain⟨x,rfl⟩:=hk a ha;have:=(hB.1 b hb).on [x] []
   rwa [Aly]at this
theorem Sj:∀{A B:List (List UInt8)},A.Perm B->A.Pairwise Left->B.Pairwise (fun a b=>Op.bytesLess b a=false)->A=B
 | [],B,hp,_,_=>(List.Perm.eq_nil hp.symm).symm
 | a :: A,[],hp,_,_=>by simpa using hp.length_eq
 | a :: A,b :: B,hp,h1,h2=>by
   rw[List.pairwise_cons]at h1 h2
   have e:a=b:=by
    rcases Ajf.1 (hp.mem_iff.1 (List.mem_cons_self (a:=a) (l:=A)))with e|e
    ·exact e
    ·rcases Ajf.1 (hp.mem_iff.2 (List.mem_cons_self (a:=b) (l:=B)))with f|f
     ·exact f.symm
     ·have:=(h1.1 b f).less;rw[h2.1 a e]at this
      cases this
   subst e;rw[Sj (List.Perm.cons_inv hp) h1.2 h2.2]
end
section
open Go.RowKit Go.Sort Flo
theorem toList_data (b:ByteArray):b.toList=b.data.toList:=by
 rw[ByteArray.toList_eq]
structure Hf where
 s:Int
 A4:Int
 x0:Nat
 y0:Nat
 d0:Nat
structure L7 (c:Hf)(bs:List UInt8)(t:Ai):Prop where
 path:∃dd:Nat,t.deep=dd/\E3 c.s bs c.x0 c.y0 c.d0 t.cx t.cy dd
 size:t.size=c.s
 Cd:E4 c.A4 t
theorem L7.same {c:Hf}{bs:List UInt8}{t u:Ai}(h:L7 c bs t)(g:L7 c bs u):t.cx=u.cx/\t.cy=u.cy/\t.deep=u.deep/\t.xs=u.xs/\t.ys=u.ys:=by
 obtain⟨d1,e1,h1⟩:=h.path;obtain⟨d2,e2,h2⟩:=g.path;obtain⟨p1,p2,p3⟩:=h1.fn h2;have hd:t.deep=u.deep:=by rw[e1,e2,p3]
 obtain⟨q1,q2⟩:=h.Cd.same g.Cd p1 p2 hd (h.size.trans g.size.symm)
 exact⟨p1,p2,hd,q1,q2⟩
open Classical in
noncomputable def Mc (c:Hf)(v:Int)(bs:List UInt8):Int:=if h:∃t,L7 c bs t then(cnt v h.choose.ys:Nat)else 0
theorem Hi {c:Hf}{bs:List UInt8}{t:Ai}(h:L7 c bs t)(v:Int):Mc c v bs=(cnt v t.ys:Nat):=by
 have hx:∃t,L7 c bs t:=⟨t,h⟩;unfold Mc;rw[dif_pos hx,(hx.choose_spec.same h).2.2.2.2]
noncomputable def Dz (c:Hf):He where
 opn:=Mc c 0
 deep bs:=(c.d0:Int)+bs.length
 sp bs:=∃x y dd:Nat,E3 c.s bs c.x0 c.y0 c.d0 x y dd/\Gl x y dd c.s
theorem L7.deep {c:Hf}{bs:List UInt8}{t:Ai}(h:L7 c bs t):t.deep=(Dz c).deep bs:=by
 obtain⟨d,e,h1⟩:=h.path;rw[e,h1.len]
 show((c.d0+bs.length:Nat):Int)=_
 unfold Dz;simp
theorem L7.sp {c:Hf}{bs:List UInt8}{t:Ai}(h:L7 c bs t){d:Nat}(hd:t.deep=d):(Dz c).sp bs↔Gl t.cx t.cy d c.s:=by
 obtain⟨d',e,h1⟩:=h.path;have e2:d=d':=by omega
 subst e2
 constructor
 ·rintro⟨x,y,dd,h2,h3⟩;obtain⟨rfl,rfl,rfl⟩:=h2.fn h1
  exact h3
 ·intro h3
  exact⟨_,_,_,h1,h3⟩
theorem E3.snoc {s:Int}:∀{bs:List UInt8} {cx cy d x y dd:Nat},E3 s bs cx cy d x y dd->∀(c:UInt8),dig c->Gl x y dd s->E3 s (bs++[c]) cx cy d (Bi x y dd s (c.toNat-48)).1 (Bi x y dd s (c.toNat-48)).2 (dd+1)
 | [],_,_,_,_,_,_,⟨rfl,rfl,rfl⟩,_,hc,hs=>⟨hc,hs,rfl,rfl,rfl⟩
 | _ :: _,_,_,_,_,_,_,⟨h1,h2,h3⟩,c,hc,hs=>⟨h1,h2,E3.snoc h3 c hc hs⟩
theorem L7.kid {c:Hf}{bs:List UInt8}{t u:Ai}(h:L7 c bs t){d:Nat}(hd:t.deep=d)(hs:Gl t.cx t.cy d c.s){k:Nat}(hk:k<4)(h1:u.cx=(Bi t.cx t.cy d c.s k).1)(h2:u.cy=(Bi t.cx t.cy d c.s k).2)(h3:u.deep=(d:Int)+1)(h4:u.size=c.s)(h5:E4 c.A4 u) :
 L7 c (bs++[UInt8.ofNat (48+k)]) u:=by
 obtain⟨d',e,hp⟩:=h.path;have e2:d=d':=by omega
 subst e2
 have hc:(UInt8.ofNat (48+k)).toNat=48+k:=by
  rw[UInt8.toNat_ofNat']
  omega
 have:=hp.snoc (UInt8.ofNat (48+k)) (by unfold dig;rw[hc];omega) hs
 rw[hc,Nat.add_sub_cancel_left]at this
 exact⟨⟨d+1,by rw[h3];rfl,by rw[h1,h2];exact this⟩,h4,h5⟩
structure Lz (c:Hf)(p:Ad):Prop where
 at_:L7 c p.path.toList p.t
 opn:p.opn=(cnt 0 p.t.ys:Nat)
theorem Lz.Aew {c:Hf}{p:Ad}(h:Lz c p):(Dz c).opn p.path.toList=p.opn:=by rw[h.opn];exact Hi h.at_ 0
def F6 (L:List Ad):List (List UInt8):=L.map fun p=>p.path.toList
theorem Lq {L M:List Ad}(h:L.Perm M):(F6 L).Perm (F6 M):=h.map _
end
section
open Go.RowKit Go.Sort Flo
attribute [local go_sem ↓] Go.wp_at_zero Go.wp_at_succ
attribute [local go_sem] A7 A5
abbrev rfW (w:World)(v0 v1 v2 v3 v4:Value):World :=
 (((w.alloc (.cells #[v0,v1,v2,v3,v4] 35)).alloc (.cells #[.slice none 0 0,.func (.func 34) #[] #[]] 82)).alloc (.cells #[.pointer (some ⟨w.heap.size+1,0,none⟩)] 79)).alloc (.cells #[.slice none 0 0] 48)
theorem Aab (B:Nat)(w:World)(v0 v1 v2 v3 v4:Value):M7 B w (w.heap.size+2) (w.heap.size+3) (w.heap.size+1) [] [] (.slice none 0 0) (.slice none 0 0) (rfW w v0 v1 v2 v3 v4)/\A8 w w.heap.size #[v0,v1,v2,v3,v4] 35 (rfW w v0 v1 v2 v3 v4):=by
 have F:=A8.new w #[v0,v1,v2,v3,v4] 35;have H:=(A8.new (w.alloc (.cells #[v0,v1,v2,v3,v4] 35)) #[.slice none 0 0,.func (.func 34) #[] #[]] 82).up F.old;have R:=(A8.new ((w.alloc (.cells #[v0,v1,v2,v3,v4] 35)).alloc (.cells #[.slice none 0 0,.func (.func 34) #[] #[]] 82)) #[.pointer (some ⟨w.heap.size+1,0,none⟩)] 79).up H.old;have D:=(A8.new (((w.alloc (.cells #[v0,v1,v2,v3,v4] 35)).alloc (.cells #[.slice none 0 0,.func (.func 34) #[] #[]] 82)).alloc (.cells #[.pointer (some ⟨w.heap.size+1,0,none⟩)] 79)) #[.slice none 0 0] 48).up R.old;simp only[Aim]at H R D
 refine⟨⟨⟨(H.alloc _).alloc _,⟨rfl,.inl ⟨rfl,rfl⟩⟩,by omega⟩,R.alloc _,D,⟨rfl,.inl ⟨rfl,rfl⟩⟩,fun k hk=>(by cases hk),by omega,fun p hp=>?_⟩,((F.alloc _).alloc _).alloc _⟩
 rcases hp with hp|hp<;>cases hp
end
end Go.Proofs.YtlfleicchbgcmaaGreat
