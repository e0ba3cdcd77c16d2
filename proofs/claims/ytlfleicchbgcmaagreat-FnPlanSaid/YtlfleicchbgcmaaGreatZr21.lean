import Derived.Test.YtlfleicchbgcmaaGreatZr20
import Derived.Lib.AppendZerosOnto
import Derived.Shelf.Spec.SlicesGrow
import Derived.Deep.Upon
import Derived.Test.YtlfleicchbgcmaaGreatZr0
import Derived.Test.YtlfleicchbgcmaaGreatZrK
set_option linter.all false
set_option maxHeartbeats 16000000
set_option maxRecDepth 100000
namespace Go.Proofs.YtlfleicchbgcmaaGreat
section
open Go.RowKit Go.Sort
attribute [local go_sem ↓] Go.wp_at_zero Go.wp_at_succ
attribute [local go_sem] A7 A5
theorem A9.D7 {w0 W:World}{b:Nat}{v0 v1 v2 v3 v4 v5 v6:Value}{T:TypeId}(h:A9 w0 b #[v0,v1,v2,v3,v4,v5,v6] T W) :
 W.cell? ⟨b,0,none⟩=some v0/\W.cell? ⟨b,1,none⟩=some v1/\W.cell? ⟨b,2,none⟩=some v2/\W.cell? ⟨b,3,none⟩=some v3/\W.cell? ⟨b,4,none⟩=some v4/\W.cell? ⟨b,5,none⟩=some v5/\W.cell? ⟨b,6,none⟩=some v6 :=
 ⟨h.cell 0 _ rfl,h.cell 1 _ rfl,h.cell 2 _ rfl,h.cell 3 _ rfl,h.cell 4 _ rfl,h.cell 5 _ rfl,h.cell 6 _ rfl⟩
theorem A9.Akf {w0 W:World}{b:Nat}{C:Array Value}{T:TypeId}(h:A9 w0 b C T W) :
 W.frozen? ⟨b,0,none⟩=false/\W.frozen? ⟨b,1,none⟩=false/\W.frozen? ⟨b,2,none⟩=false/\W.frozen? ⟨b,3,none⟩=false/\W.frozen? ⟨b,4,none⟩=false/\W.frozen? ⟨b,5,none⟩=false/\W.frozen? ⟨b,6,none⟩=false :=
 ⟨h.frozen 0,h.frozen 1,h.frozen 2,h.frozen 3,h.frozen 4,h.frozen 5,h.frozen 6⟩
theorem A9.Aib {w0 W:World}{b:Nat}{C:Array Value}{T:TypeId}(h:A9 w0 b C T W){p:Nat}(hp:w0.heap.size<=p)(hne:b≠p)(u0 u1 u2 u3 u4 u5 u6:Value) :
 A9 w0 b C T (((((((W.setCell ⟨p,0,none⟩ u0).setCell ⟨p,1,none⟩ u1).setCell ⟨p,2,none⟩ u2).setCell ⟨p,3,none⟩ u3).setCell ⟨p,4,none⟩ u4).setCell ⟨p,5,none⟩ u5).setCell ⟨p,6,none⟩ u6) :=
 ((((((h.other (p:=⟨p,0,none⟩) hp hne u0).other (p:=⟨p,1,none⟩) hp hne u1).other (p:=⟨p,2,none⟩) hp hne u2).other (p:=⟨p,3,none⟩) hp hne u3).other (p:=⟨p,4,none⟩) hp hne u4).other (p:=⟨p,5,none⟩) hp hne u5).other (p:=⟨p,6,none⟩) hp hne u6
theorem Ahb {w W:World}(h:Below w.heap.size w W){b:Nat}(hb:w.heap.size<=b)(u0 u1 u2 u3 u4 u5 u6:Value) :
 Below w.heap.size w (((((((W.setCell ⟨b,0,none⟩ u0).setCell ⟨b,1,none⟩ u1).setCell ⟨b,2,none⟩ u2).setCell ⟨b,3,none⟩ u3).setCell ⟨b,4,none⟩ u4).setCell ⟨b,5,none⟩ u5).setCell ⟨b,6,none⟩ u6) :=
 ((((((h.setCell (p:=⟨b,0,none⟩) hb u0).setCell (p:=⟨b,1,none⟩) hb u1).setCell (p:=⟨b,2,none⟩) hb u2).setCell (p:=⟨b,3,none⟩) hb u3).setCell (p:=⟨b,4,none⟩) hb u4).setCell (p:=⟨b,5,none⟩) hb u5).setCell (p:=⟨b,6,none⟩) hb u6
theorem A2d (a b c:Int)(w:World):(Instr.index 53 (.agg #[.int .i64 a,.int .i64 b,.int .i64 c]) (.int .i64 2)).run Vp.prog w=.ok (.int .i64 c) w:=by kernel_rfl
theorem Wn (t:Aj)(path:ByteArray)(B:Nat)(w:World)(h:Cn B t w) :
 Calls Vp.prog 37 #[.agg t.cells.toArray,.string path] w fun e w'=>e=.returned (.agg (Ah ⟨t,path,(cnt 0 t.ys:Nat)⟩).toArray)/\Below w.heap.size w w':=by
 have e1:t.cells.toArray=#[.complex .f32 t.cx t.cy,.int .i64 t.deep,.int .i64 t.size,.slice (some ⟨t.gs,0,none⟩) t.n t.cs,.slice (some ⟨t.gm,0,none⟩) t.n t.cm]:=rfl;have e2:(Ah ⟨t,path,(cnt 0 t.ys:Nat)⟩).toArray=#[.complex .f32 t.cx t.cy,.int .i64 t.deep,.int .i64 t.size,.slice (some ⟨t.gs,0,none⟩) t.n t.cs,.slice (some ⟨t.gm,0,none⟩) t.n t.cm,.string path,.int .i64 (cnt 0 t.ys:Nat)]:=rfl;rw[e1,e2]
 have HC0:Hid (∀W',Below w.heap.size w W'->Calls Vp.prog 17 #[.slice (some ⟨t.gm,0,none⟩) t.n t.cm] W' fun e w'=>e=.returned (.agg #[.int .i64 (cnt 1 t.ys:Nat),.int .i64 (cnt (-1) t.ys:Nat),.int .i64 (cnt 0 t.ys:Nat)])/\Below W'.heap.size W' w'):=fun W' hb=>by
  have hb':=Bs h.pl;have hl:=h.made.ly
  have hn:t.n<=64:=by
   unfold Aj.n;have:t.size.toNat<=8:=by omega
   exact Aqh this this
  have:=Qi (some ⟨t.gm,0,none⟩) t.cm t.ys (by omega) h.made.hy W' (Es (h.step hb).made.M)
  rw[hl]at this;have hcq:I9 t.ys t.n=#[.int .i64 (cnt 1 t.ys:Nat),.int .i64 (cnt (-1) t.ys:Nat),.int .i64 (cnt 0 t.ys:Nat)]:=by unfold I9;rw[<-hl,List.take_length]
  rwa [hcq]at this
 clear h e1 e2;generalize cnt 1 t.ys=m1 at *;generalize cnt (-1) t.ys=m2 at *;generalize cnt 0 t.ys=m0 at *;have X:=(A9.new w #[.complex .f32 t.cx t.cy,.int .i64 t.deep,.int .i64 t.size,.slice (some ⟨t.gs,0,none⟩) t.n t.cs,.slice (some ⟨t.gm,0,none⟩) t.n t.cm] 35).alloc (.cells #[.complex .f32 0 0,.int .i64 0,.int .i64 0,.slice none 0 0,.slice none 0 0,.string ⟨#[]⟩,.int .i64 0] 52);have Z:=(A9.new (w.alloc (.cells #[.complex .f32 t.cx t.cy,.int .i64 t.deep,.int .i64 t.size,.slice (some ⟨t.gs,0,none⟩) t.n t.cs,.slice (some ⟨t.gm,0,none⟩) t.n t.cm] 35)) #[.complex .f32 0 0,.int .i64 0,.int .i64 0,.slice none 0 0,.slice none 0 0,.string ⟨#[]⟩,.int .i64 0] 52).up (A9.new w #[.complex .f32 t.cx t.cy,.int .i64 t.deep,.int .i64 t.size,.slice (some ⟨t.gs,0,none⟩) t.n t.cs,.slice (some ⟨t.gm,0,none⟩) t.n t.cm] 35).old;rw[Apl]at Z;have HX1:=Aoy X;have HZ1:=Aoy Z;have mixed:Vp.prog.follows .mixedOrders=true:=by kernel_rfl
 clear X Z
 go_enter Vp.func37,Tryz.ntmps37
 go_upto_region 1 with fail
 generalize (w.alloc (.cells #[.complex .f32 t.cx t.cy,.int .i64 t.deep,.int .i64 t.size,.slice (some ⟨t.gs,0,none⟩) t.n t.cs,.slice (some ⟨t.gm,0,none⟩) t.n t.cm] 35)).alloc (.cells #[.complex .f32 0 0,.int .i64 0,.int .i64 0,.slice none 0 0,.slice none 0 0,.string ⟨#[]⟩,.int .i64 0] 52)=W at *;have HX:Hid (∀W',Below W.drew.heap.size W.drew W'->A9 w w.heap.size #[.complex .f32 t.cx t.cy,.int .i64 t.deep,.int .i64 t.size,.slice (some ⟨t.gs,0,none⟩) t.n t.cs,.slice (some ⟨t.gm,0,none⟩) t.n t.cm] 35 W'):=fun W' h=>(HX1.out.step ((Au.refl _).drew.below _)).step h
 have HZ:Hid (∀W',Below W.drew.heap.size W.drew W'->A9 w (w.heap.size+1) #[.complex .f32 0 0,.int .i64 0,.int .i64 0,.slice none 0 0,.slice none 0 0,.string ⟨#[]⟩,.int .i64 0] 52 W'):=fun W' h=>(HZ1.out.step ((Au.refl _).drew.below _)).step h
 have HC:Hid (∀W',Below W.drew.heap.size W.drew W'->Calls Vp.prog 17 #[.slice (some ⟨t.gm,0,none⟩) t.n t.cm] W' fun e w'=>e=.returned (.agg #[.int .i64 m1,.int .i64 m2,.int .i64 m0])/\Below W'.heap.size W' w'):=fun W' h=>HC0.out W' (HX.out W' h).old
 have hbk:=Aph W.drew.heap.size W.drew;have HXs:=Aoy (fun W' h u0 u1 u2 u3 u4 u5 u6=>(HX.out W' h).Aib (p:=w.heap.size+1) (by omega) (by omega) u0 u1 u2 u3 u4 u5 u6)
 have ix:=A2d m1 m2 m0;clear HX1 HZ1 HC0
 go_region_held3 (fun w'=>w'.cell? ⟨w.heap.size,0,none⟩=some (.complex .f32 t.cx t.cy)/\w'.cell? ⟨w.heap.size,1,none⟩=some (.int .i64 t.deep)/\w'.cell? ⟨w.heap.size,2,none⟩=some (.int .i64 t.size)/\w'.cell? ⟨w.heap.size,3,none⟩=some (.slice (some ⟨t.gs,0,none⟩) t.n t.cs)/\w'.cell? ⟨w.heap.size,4,none⟩=some (.slice (some ⟨t.gm,0,none⟩) t.n t.cm)) (((first|dsimp only|skip);first |(with_reducible exact(HX.out _ hbk).Ad) |(with_reducible exact(HXs.out _ hbk _ _ _ _ _ _ _).Ad))) (first
  |(go_at_call 17;(with_reducible refine(HC.out _ hbk).mono ?_);rintro e w' ⟨rfl,hb⟩;replace hbk:=hbk.trans (hb.mono hbk.size);clear hb;obtain⟨z0,z1,z2,z3,z4,z5,z6⟩:=(HZ.out _ hbk).D7;obtain⟨g0,g1,g2,g3,g4,g5,g6⟩:=(HZ.out _ hbk).Akf))
 all_goals
  go_wp2
  exact Ap4 (v:=.agg #[.complex .f32 t.cx t.cy,.int .i64 t.deep,.int .i64 t.size,.slice (some ⟨t.gs,0,none⟩) t.n t.cs,.slice (some ⟨t.gm,0,none⟩) t.n t.cm,.string path,.int .i64 m0]) (by simp[results,Tryz.f37,go_sem,z0,z1,z2,z3,z4,z5,z6]) rfl ⟨rfl,Ahb (HZ.out _ hbk).old (by omega) _ _ _ _ _ _ _⟩
end
section
open Go.RowKit Go.Sort
attribute [local go_sem ↓] Go.wp_at_zero Go.wp_at_succ
attribute [local go_sem] A7 A5
theorem E5 {P:Program}(w:World){ops:Array Oper}{rest:List Oper}{o:Oper}{a:Act}{Q:Exit->Act->World->Prop}(hgd:o.guard=none)(s x:Operand)(t:TypeId)
 (ho:o.op=.call { callee:=.builtin .append,args:=#[s,x],argTypes:=#[t,t] })
 (base:Nat) (e:TypeId) (i:TypeInfo) (z:Value) (size bytes:Nat) (ht:P.underlying t=some (.slice e)) (hi:P.info? e=some i) (hz:i.zero=some z)
 (hsize:i.size=size) (hby:i.bytes=bytes) (hzs:z.cells.size=size) (hsz:0<size)
 (v:Value) (n:Nat) (xs:List Value) (hs:a.eval s=v) (hown:w.ownsRow base e size v n xs)
 (ad:Addr) (m c:Nat) (news:List Value) (hx:a.eval x=.slice (some ad) m c) (hl:news.length=m*size) (hnews:∀j u,news[j]?=some u->w.cell? (ad.add j)=some u) (h1:∀u∈news,u.oneCell'=true)
 (h63:n+m<=maxLen) (hbytes:(n+m)*bytes<=140737488355328) (hbase:base<=w.heap.size)
 (h:∀v' w',w'.ownsRow base e size v' (n+m) (xs++news)->w.grownBy w' v.ownBlock ->(v'.ownBlock=v.ownBlock\/v'.ownBlock=some w.heap.size)->wpList P ops Q rest (a.put o.dst v') w'):wpList P ops Q (o :: rest) a w:=by
 obtain⟨v',w',hr,h2,h3,-,h5⟩:=run_append_own_at (P:=P) w base t o.type e i z size bytes ht hi hz hsize hby hzs hsz v n xs hown ad m c news hl hnews h1 h63 hbytes hbase
 refine wpList_plain hgd fun K hK=>?_
 unfold Oper.wp execOp;simp only[ho,resolve,invoke,builtin,As3,Sem.run_pure,Atw,Att,Aqo,Asr,hs,hx,hr]
 exact hK _ _ (h v' w' h2 h3 h5)
structure N8 (B:Nat)(w0:World)(rb db hb:Nat)(H D:List Ae)(hv dv:Value)(W:World):Prop where
 heap:Yp w0 hb H hv W
 A35:A9 w0 rb #[.pointer (some ⟨hb,0,none⟩)] 79 W
 Pv:A9 w0 db #[dv] 48 W
 Pw:W.ownsRow w0.heap.size 52 7 dv D.length (Ap D)
 apart:∀k,dv.ownBlock=some k->hv.ownBlock≠some k
 Abl:w0.heap.size<=db
 own:∀p,p∈H\/p∈D->Cn B p.t W
abbrev rfS (hb db:Nat)(hv dv:Value):Nat->Prop:=fun k=>k=hb\/k=db\/hv.ownBlock=some k\/dv.ownBlock=some k
theorem Cu {W:World}{B:Nat}{e:TypeId}{size n:Nat}{v:Value}{xs:List Value}(h:W.ownsRow B e size v n xs){k:Nat}(hk:v.ownBlock=some k):B<=k/\∃C,W.heap[k]?=some (.cells C e (0,0)):=by
 rcases h.2 with⟨rfl,_⟩ |⟨g,cap,cur,rfl,h2,h3,_⟩
 ·cases hk
 ·injection hk with hk
  have hk:g=k:=hk;subst hk
  exact⟨h2,cur,h3⟩
theorem N8.low {B:Nat}{w0:World}{rb db hb:Nat}{H D:List Ae}{hv dv:Value}{W:World}(h:N8 B w0 rb db hb H D hv dv W):∀k,rfS hb db hv dv k->w0.heap.size<=k:=by
 rintro k (rfl|rfl|hk|hk)
 ·exact h.heap.low
 ·exact h.Abl
 ·exact(Cu h.heap.row hk).1
 ·exact(Cu h.Pw hk).1
theorem N8.types {B:Nat}{w0:World}{rb db hb:Nat}{H D:List Ae}{hv dv:Value}{W:World}(h:N8 B w0 rb db hb H D hv dv W):∀k,rfS hb db hv dv k->∃C T,W.heap[k]?=some (.cells C T (0,0)) /\(T=82\/T=48\/T=52):=by
 rintro k (rfl|rfl|hk|hk)
 ·exact⟨_,_,h.heap.box.blk,.inl rfl⟩
 ·exact⟨_,_,h.Pv.blk,.inr (.inl rfl)⟩
 ·obtain⟨_,C,hc⟩:=Cu h.heap.row hk
  exact⟨_,_,hc,.inr (.inr rfl)⟩
 ·obtain⟨_,C,hc⟩:=Cu h.Pw hk
  exact⟨_,_,hc,.inr (.inr rfl)⟩
theorem N8.aside {B:Nat}{w0:World}{rb db hb:Nat}{H D:List Ae}{hv dv:Value}{W:World}(h:N8 B w0 rb db hb H D hv dv W){k:Nat}{C:Array Value}{T:TypeId}(hk:W.heap[k]?=some (.cells C T (0,0)))(hT:T≠82/\T≠48/\T≠52):¬rfS hb db hv dv k:=by
 intro hs;obtain⟨C',T',hc,ht⟩:=h.types k hs;rw[hk]at hc;injection hc with hc
 injection hc with _ hc
 subst hc
 rcases ht with h|h|h
 ·exact hT.1 h
 ·exact hT.2.1 h
 ·exact hT.2.2 h
theorem Cn.chg {S:Nat->Prop}{B:Nat}{t:Aj}{w w':World}(h:Cn B t w)(k:Gb S w w')(hS:∀b C T,w.heap[b]?=some (.cells C T (0,0)) ->(T=74\/T=3)->¬S b):Cn B t w' :=
 ⟨⟨k.owns h.made.S fun b hb=>by
  obtain⟨_,C,hc⟩:=Cu h.made.S hb
  exact hS b C _ hc (.inl rfl),k.owns h.made.M fun b hb=>by
  obtain⟨_,C,hc⟩:=Cu h.made.M hb
  exact hS b C _ hc (.inr rfl),h.made.lx,h.made.ly,h.made.hx,h.made.hy⟩,h.pl,h.bx,h.by1,h.ks,h.km⟩
theorem N8.A83 {B:Nat}{w0:World}{rb db hb:Nat}{H D:List Ae}{hv dv:Value}{W W':World}(h:N8 B w0 rb db hb H D hv dv W)(k:Gb (rfS hb db hv dv) W W'){B':Nat}{t:Aj}(ht:Cn B' t W):Cn B' t W' :=
 ht.chg k fun b C T hc hT=>h.aside hc (by rcases hT with rfl|rfl<;>decide)
theorem N8.step {B:Nat}{w0:World}{rb db hb:Nat}{H D:List Ae}{hv dv:Value}{W W':World}(h:N8 B w0 rb db hb H D hv dv W)(k:Below W.heap.size W W'):N8 B w0 rb db hb H D hv dv W' :=
 ⟨h.heap.step k,h.A35.step k,h.Pv.step k,Ab h.Pw k,h.apart,h.Abl,fun p hp=>(h.own p hp).step k⟩
theorem N8.Akh {B:Nat}{w0:World}{rb db hb:Nat}{H D:List Ae}{hv dv:Value}{W:World}(h:N8 B w0 rb db hb H D hv dv W):hb≠db:=by
 intro e;subst e;have:=h.heap.box.blk.symm.trans h.Pv.blk;injection this with this
 injection this with _ this
 revert this
 decide
theorem N8.lt {B:Nat}{w0:World}{rb db hb:Nat}{H D:List Ae}{hv dv:Value}{W:World}(h:N8 B w0 rb db hb H D hv dv W){k:Nat}(hk:rfS hb db hv dv k):k<W.heap.size:=by
 obtain⟨C,T,hc,_⟩:=h.types k hk
 exact(Aoz.1 hc).1
theorem N8.Abz {B:Nat}{w0:World}{rb db hb:Nat}{H D H':List Ae}{hv dv hv':Value}{W W':World}(h:N8 B w0 rb db hb H D hv dv W)(hi:Yp w0 hb H' hv' W')(hc:Gb (hpS hb hv) W W')(hm:L7 W hv hv')(ho:∀p,p∈H'->Cn B p.t W):N8 B w0 rb db hb H' D hv' dv W'/\Gb (rfS hb db hv dv) W W':=by
 have hc':Gb (rfS hb db hv dv) W W':=hc.mono fun k _ hk=>hk.elim .inl fun h=>.inr (.inr (.inl h))
 have hlow:∀k,hpS hb hv k->w0.heap.size<=k:=fun k hk=>h.low k (hk.elim .inl fun h=>.inr (.inr (.inl h)))
 refine⟨⟨hi,hc'.box h.A35 (h.aside h.A35.blk (by decide)) h.low,hc.box h.Pv (fun hs=>?_) hlow,hc.owns h.Pw (fun b hb' hs=>?_),fun k hk e=>?_,h.Abl,fun p hp=>?_⟩,hc'⟩
 ·rcases hs with hs|hs
  ·exact h.Akh hs.symm
  ·exact Ag h.heap.row h.Pv.blk (by decide) hs
 ·rcases hs with rfl|hs
  ·exact Ag h.Pw h.heap.box.blk (by decide) hb'
  ·exact h.apart b hb' hs
 ·rcases hm with hm |⟨g,hm,hg⟩
  ·exact h.apart k hk (hm▸e)
  ·rw[hm]at e;injection e with e
   have:=h.lt (.inr (.inr (.inr hk)))
   omega
 ·exact h.A83 hc' (hp.elim (ho p) fun hp=>h.own p (.inr hp))
theorem N8.Aid {B:Nat}{w0:World}{rb db hb:Nat}{H D:List Ae}{hv dv dv':Value}{W W':World}{p:Ae}(h:N8 B w0 rb db hb H D hv dv W)(hb':A9 w0 db #[dv'] 48 W')(hr:W'.ownsRow w0.heap.size 52 7 dv' (D.length+1) (Ap D++Ah p))(hc:Gb (fun k=>k=db\/dv.ownBlock=some k) W W')(hm:L7 W dv dv')(ho:Cn B p.t W) :
 N8 B w0 rb db hb H (D++[p]) hv dv' W'/\Gb (rfS hb db hv dv) W W':=by
 have hc':Gb (rfS hb db hv dv) W W':=hc.mono fun k _ hk=>hk.elim (fun h=>.inr (.inl h)) fun h=>.inr (.inr (.inr h))
 have hlow:∀k,(k=db\/dv.ownBlock=some k)->w0.heap.size<=k:=fun k hk=>h.low k (hk.elim (fun h=>.inr (.inl h)) fun h=>.inr (.inr (.inr h)))
 refine⟨⟨⟨hc.box h.heap.box (fun hs=>?_) hlow,hc.owns h.heap.row (fun b hbk hs=>?_),h.heap.low⟩,hc'.box h.A35 (h.aside h.A35.blk (by decide)) h.low,hb',by rw[Apz,Qg];exact hr,fun k hk e=>?_,h.Abl,fun q hq=>?_⟩,hc'⟩
 ·rcases hs with hs|hs
  ·exact h.Akh hs
  ·exact Ag h.Pw h.heap.box.blk (by decide) hs
 ·rcases hs with rfl|hs
  ·exact Ag h.heap.row h.Pv.blk (by decide) hbk
  ·exact h.apart b hs hbk
 ·rcases hm with hm |⟨g,hm,hg⟩
  ·exact h.apart k (hm▸hk) e
  ·rw[hm]at hk;injection hk with hk
   have:=h.lt (.inr (.inr (.inl e)))
   omega
 ·refine h.A83 hc' ?_
  rcases hq with hq|hq
  ·exact h.own q (.inl hq)
  ·rcases Aq9.1 hq with hq|hq
   ·exact h.own q (.inr hq)
   ·obtain rfl:q=p:=by simpa using hq
    exact ho
end
section
open Go.RowKit Go.Sort
attribute [local go_sem ↓] Go.wp_at_zero Go.wp_at_succ
attribute [local go_sem] A7 A5
def Gd (p:Ae):Bool:=decide (0<p.opn) && decide (p.t.deep<10)
def K0 (B:Nat)(w0:World)(rb db hb:Nat)(H D:List Ae)(hv dv:Value)(p:Ae)(w w':World):Prop :=
 ∃H' D' hv' dv',N8 B w0 rb db hb H' D' hv' dv' w'/\Jy Ec H'.length H'.toArray/\Gb (rfS hb db hv dv) w w'/\L7 w hv hv'/\L7 w dv dv' /\
  ((Gd p=true/\H'.Perm (H++[p])/\D'=D) \/(Gd p=false/\H'=H/\D'=D++[p]))
theorem N8.alloc {B:Nat}{w0:World}{rb db hb:Nat}{H D:List Ae}{hv dv:Value}{W:World}(h:N8 B w0 rb db hb H D hv dv W)(o:Obj):N8 B w0 rb db hb H D hv dv (W.alloc o):=h.step ((Aph _ _).alloc (Ap0 _) o)
theorem A2z (B:Nat)(w0:World)(rb db hb:Nat)(H D:List Ae)(hv dv:Value)(p:Ae)(hH:H.length<=500)(hD:D.length<=500)(hok:Jy Ec H.length H.toArray)(w:World)(I:N8 B w0 rb db hb H D hv dv w)(ho:Cn B p.t w) :
 Calls Vp.prog 35 #[.agg (Ah p).toArray,.pointer (some ⟨rb,0,none⟩),.pointer (some ⟨db,0,none⟩)] w fun e w'=>e=.returned (.tuple #[])/\K0 B w0 rb db hb H D hv dv p w w':=by
 have e1:(Ah p).toArray=#[.complex .f32 p.t.cx p.t.cy,.int .i64 p.t.deep,.int .i64 p.t.size,.slice (some ⟨p.t.gs,0,none⟩) p.t.n p.t.cs,.slice (some ⟨p.t.gm,0,none⟩) p.t.n p.t.cm,.string p.path,.int .i64 p.opn]:=rfl;have X:=A9.new w (Ah p).toArray 52;have HI:=Aoy (I.alloc (.cells (Ah p).toArray 52));have HO:=Aoy (ho.step X.old);have HB:=Aoy X.old;rw[e1]at X ⊢;obtain⟨x0,x1,x2,x3,x4,x5,x6⟩:=X.D7;have HOK:=Aoy hok;have d0:(w.alloc (.cells (Ah p).toArray 52)).cell? ⟨db,0,none⟩=some dv:=HI.out.Pv.cell 0 _ rfl;have r0:(w.alloc (.cells (Ah p).toArray 52)).cell? ⟨rb,0,none⟩=some (.pointer (some ⟨hb,0,none⟩)):=HI.out.A35.cell 0 _ rfl;have g0:=HI.out.Pv.frozen 0;rw[e1]at d0 r0 g0;clear I ho hok
 by_cases hg:Gd p=true
 ·have hg':=hg;unfold Gd at hg';simp only[Ap7,Apm]at hg';obtain⟨h1,h2⟩:=hg';have f1:decide (0<p.opn)=true:=Apj h1;have f2:decide (p.t.deep<10)=true:=Apj h2;have CP:=Aoy (A20 w0 hb H hv p hH HOK.out _ HI.out.heap);rw[e1]at CP HI HO HB;have HG:=Aoy hg;clear h1 h2 hg
  go_enter Vp.func35,Tryz.ntmps35
  go_upto_region 1 with fail
  generalize w.alloc (.cells #[.complex .f32 p.t.cx p.t.cy,.int .i64 p.t.deep,.int .i64 p.t.size,.slice (some ⟨p.t.gs,0,none⟩) p.t.n p.t.cs,.slice (some ⟨p.t.gm,0,none⟩) p.t.n p.t.cm,.string p.path,.int .i64 p.opn] 52)=wa at *
  go_wp2_with fail
  refine CP.out.mono ?_
  rintro e w2 ⟨rfl,H',v',hp,hk,hi,hc,hm⟩
  obtain⟨I2,C2⟩:=HI.out.Abz hi hc hm (fun q hq=>by
   rcases Aq9.1 (hp.mem_iff.1 hq)with h|h
   ·exact HI.out.own q (.inl h)
   ·obtain rfl:q=p:=by simpa using h
    exact HO.out)
  have HR:Hid (K0 B w0 rb db hb H D hv dv p w w2):=⟨H',D,v',dv,I2,hk,(Gb.Ay HB.out).trans C2,hm.imp id fun⟨g,h1,h2⟩=>⟨g,h1,Ap3 HB.out.size h2⟩,.inl rfl,.inl ⟨HG.out,hp,rfl⟩⟩
  clear hi hc hm hp hk I2 C2 CP
  go_wp2
  go_end0
  exact⟨rfl,HR.out⟩
 ·have hg':Gd p=false:=by simpa using hg
  have HG:=Aoy hg';obtain⟨iT,hiT,hzT0,hzT1,hzT2⟩:=Aqz A77;have hml:D.length+1<=maxLen:=by unfold maxLen;omega
  have HFIN:Hid (∀v' w6,w6.ownsRow w0.heap.size 52 7 v' (D.length+1) (Ap D++Ah p) ->((w.alloc (.cells (Ah p).toArray 52)).alloc (.cells (Ah p).toArray 52)).grownBy w6 dv.ownBlock ->(v'.ownBlock=dv.ownBlock\/v'.ownBlock=some ((w.alloc (.cells (Ah p).toArray 52)).alloc (.cells (Ah p).toArray 52)).heap.size) ->
   K0 B w0 rb db hb H D hv dv p w (w6.setCell ⟨db,0,none⟩ v')/\w6.cell? ⟨db,0,none⟩=some dv/\w6.frozen? ⟨db,0,none⟩=false):=fun v' w6 hown hgrow hmv=>by
   have I3:=HI.out.alloc (.cells (Ah p).toArray 52);have hnd:dv.ownBlock≠some db:=Ag I3.Pw I3.Pv.blk (by decide)
   have B6:=I3.Pv.grown hgrow hnd (fun k hk=>(Cu I3.Pw hk).1)
   have hb2:Below w.heap.size w ((w.alloc (.cells (Ah p).toArray 52)).alloc (.cells (Ah p).toArray 52)):=HB.out.alloc HB.out.size _;have hm:L7 w dv v':=hmv.imp id fun h=>⟨_,h,hb2.size⟩
   have hm3:L7 ((w.alloc (.cells (Ah p).toArray 52)).alloc (.cells (Ah p).toArray 52)) dv v':=hmv.imp id fun h=>⟨_,h,Ap0 _⟩
   have C6:Gb (fun k=>k=db\/dv.ownBlock=some k) ((w.alloc (.cells (Ah p).toArray 52)).alloc (.cells (Ah p).toArray 52)) (w6.setCell ⟨db,0,none⟩ v'):=(Gb.Ou hgrow (fun k hk=>.inr hk)).set (b:=db) (.inl rfl) 0 v'
   obtain⟨I4,C4⟩:=I3.Aid (B6.set I3.Abl 0 v') (A6 hown B6.blk (by decide) v') C6 hm3 (HO.out.step ((Aph _ _).alloc (Ap0 _) _))
   exact⟨⟨H,D++[p],hv,v',I4,HOK.out,(Gb.Ay hb2).trans C4,.inl rfl,hm,.inr ⟨HG.out,rfl,rfl⟩⟩,B6.cell 0 _ rfl,B6.frozen 0⟩
  have HNW:Hid (∀j u,(Ah p)[j]?=some u ->((w.alloc (.cells (Ah p).toArray 52)).alloc (.cells (Ah p).toArray 52)).cell? ((⟨w.heap.size+1,0,none⟩:Addr).add j)=some u):=fun j u hj=>by
   have X:=A9.new (w.alloc (.cells (Ah p).toArray 52)) (Ah p).toArray 52;rw[Apl]at X;rw[M9,Aqr]
   exact X.cell j u (by rw[<-Ar6];exact hj)
  have HOW:=Aoy (HI.out.alloc (.cells (Ah p).toArray 52)).Pw;have HSZ:Hid (w0.heap.size <=((w.alloc (.cells (Ah p).toArray 52)).alloc (.cells (Ah p).toArray 52)).heap.size):=((HI.out.alloc (.cells (Ah p).toArray 52)).Pv.old.size);rw[e1]at HFIN HNW HOW HSZ;have hsz:(w.alloc (.cells #[.complex .f32 p.t.cx p.t.cy,.int .i64 p.t.deep,.int .i64 p.t.size,.slice (some ⟨p.t.gs,0,none⟩) p.t.n p.t.cs,.slice (some ⟨p.t.gm,0,none⟩) p.t.n p.t.cm,.string p.path,.int .i64 p.opn] 52)).heap.size=w.heap.size+1:=Apl _ _;clear X hg hg'
  go_enter Vp.func35,Tryz.ntmps35
  go_upto_region 1 with fail
  generalize w.alloc (.cells #[.complex .f32 p.t.cx p.t.cy,.int .i64 p.t.deep,.int .i64 p.t.size,.slice (some ⟨p.t.gs,0,none⟩) p.t.n p.t.cs,.slice (some ⟨p.t.gm,0,none⟩) p.t.n p.t.cm,.string p.path,.int .i64 p.opn] 52)=wa at *
  have fin:(decide (0<p.opn)=false) \/(decide (0<p.opn)=true/\decide (p.t.deep<10)=false):=by
   have:=HG.out;unfold Gd at this
   cases h:decide (0<p.opn)
   ·exact .inl rfl
   ·rw[h,Ash]at this
    exact .inr ⟨rfl,this⟩
  rcases fin with f1 |⟨f1,f2⟩
  ·go_wp2_with (at_builtin;refine E5 _ rfl _ _ _ rfl w0.heap.size 52 iT _ 7 96 (Vp.Dw Tryz.underlying48) hiT hzT0 hzT1 hzT2 rfl (by omega) _ D.length (Ap D) rfl HOW.out ⟨w.heap.size+1,0,none⟩ 1 1 (Ah p) (by rw[<-hsz];rfl) rfl HNW.out (Jl p) hml (by omega) HSZ.out ?_;intro v6 w6 hown6 hgrow6 hmv6;obtain⟨g6,c6,rfl,-,-⟩:=ownsRow_form hown6 (by omega);have H6:=Aoy (HFIN.out _ _ hown6 hgrow6 hmv6);have k0:=H6.out.2.1;have q0:=H6.out.2.2;clear hown6 hgrow6 hmv6)
   go_end0
   exact⟨rfl,H6.out.1⟩
  ·go_wp2_with (at_builtin;refine E5 _ rfl _ _ _ rfl w0.heap.size 52 iT _ 7 96 (Vp.Dw Tryz.underlying48) hiT hzT0 hzT1 hzT2 rfl (by omega) _ D.length (Ap D) rfl HOW.out ⟨w.heap.size+1,0,none⟩ 1 1 (Ah p) (by rw[<-hsz];rfl) rfl HNW.out (Jl p) hml (by omega) HSZ.out ?_;intro v6 w6 hown6 hgrow6 hmv6;obtain⟨g6,c6,rfl,-,-⟩:=ownsRow_form hown6 (by omega);have H6:=Aoy (HFIN.out _ _ hown6 hgrow6 hmv6);have k0:=H6.out.2.1;have q0:=H6.out.2.2;clear hown6 hgrow6 hmv6)
   go_end0
   exact⟨rfl,H6.out.1⟩
end
section
open Go.RowKit Go.Sort
attribute [local go_sem ↓] Go.wp_at_zero Go.wp_at_succ
theorem wpList_append_run {P:Program}(w w':World){ops:Array Oper}{rest:List Oper}{o:Oper}{a:Act}{Q:Exit->Act->World->Prop}(hgd:o.guard=none)(s x:Operand)(t tn:TypeId)
 (ho:o.op=.call { callee:=.builtin .append,args:=#[s,x],argTypes:=#[t,tn] }) (v u v':Value) (hs:a.eval s=v) (hx:a.eval x=u) (hr:∀ty,(Builtin.append_ #[t,tn] ty #[v,u]).run P w=.ok v' w')
 (h:wpList P ops Q rest (a.put o.dst v') w'):wpList P ops Q (o :: rest) a w:=by
 refine wpList_plain hgd fun K hK=>?_
 unfold Oper.wp execOp;simp only[ho,resolve,invoke,builtin,As3,Sem.run_pure,Atw,Att,Aqo,Asr,hs,hx,hr]
 exact hK _ _ h
theorem Af8 (n:Nat)(h0:0<n)(hn:n<=1000)(w:World) :
 Calls Vp.prog 62 #[.slice none 0 0,.int .i64 n] w fun e w'=>∃cap,e=.returned (.slice (some ⟨w.heap.size,0,none⟩) 0 cap)/\w'.ownsRow w.heap.size 52 7 (.slice (some ⟨w.heap.size,0,none⟩) 0 cap) 0 []/\Below w.heap.size w w':=by
 obtain⟨iT,hiT,hzT0,hzT1,hzT2⟩:=Aqz A77;obtain⟨z,hz⟩:∃z,iT.zero=some z:=⟨_,hzT0⟩;have hzs:z.cells.size=7:=by rw[hzT0]at hz;cases hz;rfl
 obtain⟨G,hG⟩:∃G,grownCap w n 0 52=G:=⟨_,rfl⟩;have hGn:n<=G:=by rw[<-hG];exact grownCap_ge w _ _ _
 have hGm:G<=maxLen:=by rw[<-hG];exact grownCap_le_maxLen w _ _ _ (by unfold maxLen;omega)
 have hrz:∀ty,(Builtin.append_ #[48,3] ty #[.slice none 0 0,.int .i64 n]).run Vp.prog w=.ok (.slice (some ⟨w.heap.size,0,none⟩) n G) (w.drew.alloc (.cells (#[]++Builtin.zeroCells z.cells n++Builtin.zeroCells z.cells (G-n)) 52)):=fun ty=>by
  have h:=Lib.run_append_grow_zeros (P:=Vp.prog) w 48 3 ty 52 iT z .i64 .i64 (Vp.Dw Tryz.underlying48) (Vp.Dw Tryz.underlying3) hiT hz none 0 0 [] (run_firstCells_none w.drew iT.size 0 0 0) n h0 (by rw[hzT1];omega) (by omega) (by omega) (by rw[hzT2];omega) (by rw[hzT2,Aqr];exact growslice_fits (by omega) (by omega))
  rw[Aqr,hG]at h
  exact h
 have HO:Hid ((w.drew.alloc (.cells (#[]++Builtin.zeroCells z.cells n++Builtin.zeroCells z.cells (G-n)) 52)).ownsRow w.heap.size 52 7 (.slice (some ⟨w.heap.size,0,none⟩) 0 G) 0 []/\Below w.heap.size w (w.drew.alloc (.cells (#[]++Builtin.zeroCells z.cells n++Builtin.zeroCells z.cells (G-n)) 52))):=by
  refine⟨⟨rfl,.inr ⟨w.heap.size,G,_,rfl,Ap0 _,(MapKept.heap_alloc w.drew _).1,by omega,hGm,?_,by simp⟩⟩,((Au.refl _).drew.below _).alloc (Ap0 _) _⟩
  have hz2:∀k,(Builtin.zeroCells z.cells k).size=k*7:=fun k=>by simp[Builtin.zeroCells,hzs]
  rw[Array.size_append,Array.size_append,hz2,hz2];simp
  omega
 generalize w.drew.alloc (.cells (#[]++Builtin.zeroCells z.cells n++Builtin.zeroCells z.cells (G-n)) 52)=w1 at *;have h1:¬((n:Int)<0):=by omega
 have h3:IntKind.i64.wrap ((n:Int)-0)=(n:Int):=by rw[Int.sub_zero];exact Aq4 _ (by omega)
 have h4:(n:Int) > 0:=by omega
 have hG63:(G:Int)<=9223372036854775807:=by unfold maxLen at hGm;omega
 have hGz:(0:Int)<=G:=by omega
 clear hG hz hzs hzT0 hzT1 hzT2 hiT
 go_enter Vp.func62,(Vp.Acp.trans Tryz.ntmps62)
 simp only[Vp.N0,List.contains_cons,List.contains_nil,Nat.reduceBEq,Bool.or_false,Aqb,At6,Ats]
 go_wp2_with (at_builtin;refine wpList_append_run _ w1 rfl _ _ _ _ rfl (.slice none 0 0) (.int .i64 n) (.slice (some ⟨w.heap.size,0,none⟩) n G) rfl rfl hrz ?_)
 go_ret
 exact⟨G,rfl,HO.out.1,HO.out.2⟩
end
section
open Go.RowKit Go.Sort
attribute [local go_sem ↓] Go.wp_at_zero Go.wp_at_succ
theorem Iq {P:Program}(w w':World){ops:Array Oper}{rest:List Oper}{o:Oper}{a:Act}{Q:Exit->Act->World->Prop}(hgd:o.guard=none)(s x:Operand)(t tn:TypeId)
 (ho:o.op=.call { callee:=.builtin .append,args:=#[s,x],argTypes:=#[t,tn] }) (v u v':Value) (hs:a.eval s=v) (hx:a.eval x=u) (hr:(Builtin.append_ #[t,tn] o.type #[v,u]).run P w=.ok v' w')
 (h:wpList P ops Q rest (a.put o.dst v') w'):wpList P ops Q (o :: rest) a w:=by
 refine wpList_plain hgd fun K hK=>?_
 unfold Oper.wp execOp;simp only[ho,resolve,invoke,builtin,As3,Sem.run_pure,Atw,Att,Aqo,Asr,hs,hx,hr]
 exact hK _ _ h
theorem A6u (w:World)(B:Nat)(v:Value)(n:Nat)(xs:List Value)(hn:w.ownsRow B 52 7 v n xs)(hnn:v≠.slice none 0 0)(B':Nat)(u:Value)(M:List Ae)(hu:w.ownsRow B' 52 7 u M.length (Ap M))(h1:n+M.length<=1000)(hB:B<=w.heap.size) :
 ∃v' w',(Builtin.append_ #[48,48] 48 #[v,u]).run Vp.prog w=.ok v' w'/\w'.ownsRow B 52 7 v' (n+M.length) (xs++Ap M)/\w.grownBy w' v.ownBlock/\v'≠.slice none 0 0:=by
 obtain⟨iT,hiT,hzT0,hzT1,hzT2⟩:=Aqz A77;have h63:n+M.length<=maxLen:=by unfold maxLen;omega
 rcases hu.2 with⟨rfl,hm⟩ |⟨g,cap,cur,rfl,h2,h3,h4,h5,h6,h7⟩
 ·have hM:M=[]:=List.length_eq_zero_iff.1 hm;subst hM
  rcases hn.2 with⟨rfl,_⟩ |⟨g,cap,cur,rfl,g2,g3,g4,g5,g6,g7⟩
  ·exact absurd rfl hnn
  ·refine⟨_,w,run_append_nothing (P:=Vp.prog) w 48 48 48 52 iT (Vp.Dw Tryz.underlying48) hiT _ n cap g4 _ (Src.ofNil w (Vp.Dw Tryz.underlying48) 0),?_,?_,hnn⟩
   ·simpa [Ap]using hn
   ·exact⟨rfl,rfl,rfl,Ap0 _,fun _ _ _=>rfl⟩
 ·obtain⟨v',w',hr,k1,k2,k3,-⟩:=run_append_own_at (P:=Vp.prog) w B 48 48 52 iT _ 7 96 (Vp.Dw Tryz.underlying48) hiT hzT0 hzT1 hzT2 rfl (by omega) v n xs hn ⟨g,0,none⟩ M.length cap (Ap M) (K4 M) (fun j x hj=>by
   rw[M9,Aqr];unfold World.cell?;rw[h3];have hl:=(Apg.1 hj).1;rw[K4]at hl;rw[<-h7,Atf hl,Ar6]at hj
   exact hj) (fun x hx=>by
   obtain⟨p,_,hp⟩:=List.mem_flatMap.1 hx
   exact Jl p x hp) h63 (by omega) hB
  exact⟨v',w',hr,k1,k2,fun e=>hnn (k3.1 e).1⟩
theorem Gm {W:World}{B n:Nat}{v:Value}{xs:List Value}(h:W.ownsRow B 52 7 v n xs):∃a c,v=.slice a n c:=by
 rcases h.2 with⟨rfl,rfl⟩ |⟨g,cap,cur,rfl,_⟩
 ·exact⟨_,_,rfl⟩
 ·exact⟨_,_,rfl⟩
theorem A38 {W:World}{B n:Nat}{v:Value}{xs:List Value}(h:W.ownsRow B 52 7 v n xs)(hn:v≠.slice none 0 0):∃g c,v=.slice (some ⟨g,0,none⟩) n c:=by
 rcases h.2 with⟨rfl,rfl⟩ |⟨g,cap,cur,rfl,_⟩
 ·exact absurd rfl hn
 ·exact⟨_,_,rfl⟩
def Fu (A M:List Ae):Nat->List Ae
 | 0=>[]
 | 1=>A
 | _=>A++M
theorem Wu (sb cs:Nat)(A M:List Ae)(av mv:Value)(hA:0<A.length+M.length)(hB:A.length+M.length<=900)(w:World)(c0:w.cell? ⟨sb,0,none⟩=some av)(c1:w.cell? ⟨sb,1,none⟩=some mv)(B:Nat)(ha:w.ownsRow B 52 7 av A.length (Ap A))(hm:w.ownsRow B 52 7 mv M.length (Ap M)) :
 Calls Vp.prog 40 #[.slice (some ⟨sb,0,none⟩) 2 cs] w fun e w'=>∃v,e=.returned v/\w'.ownsRow w.heap.size 52 7 v (A.length+M.length) (Ap (A++M))/\Below w.heap.size w w':=by
 have HA:=Aoy ha;have HM:=Aoy hm;obtain⟨a1,a2,rfl⟩:=Gm ha;obtain⟨m1,m2,rfl⟩:=Gm hm;have HC0:=Aoy c0;have HC1:=Aoy c1;obtain⟨na,hna⟩:∃na,A.length=na:=⟨_,rfl⟩;obtain⟨nm,hnm⟩:∃nm,M.length=nm:=⟨_,rfl⟩;have HNA:=Aoy hna;have HNM:=Aoy hnm;rw[hna,hnm]at hA hB ⊢;rw[hna]at c0 HA HC0;rw[hnm]at c1 HM HC1;have e1:IntKind.i64.wrap (0 +(na:Int))=(na:Int):=by rw[Int.zero_add];exact Aq4 _ (by omega)
 have e2:IntKind.i64.wrap ((na:Int) +(nm:Int))=(na:Int) +(nm:Int):=Aq4 _ (by omega)
 clear ha hm hna hnm
 go_enter Vp.func40,(Vp.Aco.trans Tryz.ntmps40)
 simp only[Vp.N0,List.contains_cons,List.contains_nil,Nat.reduceBEq,Bool.or_false,Aqb,At6,Ats]
 go_wp2
 go_loopw [3,11] (fun sv kv wr=>wr=w /\((kv=.int .i64 0/\sv=.int .i64 0) \/(kv=.int .i64 1/\sv=.int .i64 na) \/(kv=.int .i64 2/\sv=.int .i64 ((na:Int)+nm)))) (fun _ kv _=>2-(intOf kv).toNat)
 case atStart=>exact⟨rfl,.inl ⟨rfl,rfl⟩⟩
 case round =>
  obtain⟨hw,hrel⟩:=hrel;replace hw:=hw.symm;subst hw
  rcases hrel with⟨rfl,rfl⟩ |⟨rfl,rfl⟩ |⟨rfl,rfl⟩
  ·have f1:¬((na:Int)<0):=by omega
   go_wp2
   go_roundw
   case rel=>exact⟨trivial,.inr (.inl ⟨by go_num,rfl⟩)⟩
   case measure=>simp[intOf]
  ·have f1:¬((na:Int)+nm<0):=by omega
   go_wp2
   go_roundw
   case rel=>exact⟨trivial,.inr (.inr ⟨by go_num,rfl⟩)⟩
   case measure=>simp[intOf]
  ·have CG:=Aoy (Af8 (na+nm) hA (by omega) w)
   rw[show((na+nm:Nat):Int)=(na:Int)+nm by omega]at CG
   clear e1 e2
   go_wp2_with fail
   refine CG.out.mono ?_
   rintro e w1 ⟨cap,rfl,ho,hb⟩;have HO:=Aoy ho;have HB:=Aoy hb;clear CG ho hb c0 c1
   go_wp2
   go_loopw [6,27] (fun rv kv w2=>∃k g c,k<=2/\kv=.int .i64 (k:Nat)/\rv=.slice (some ⟨g,0,none⟩) (Fu A M k).length c/\Hid (Below w.heap.size w w2)/\Hid (w2.ownsRow w.heap.size 52 7 (.slice (some ⟨g,0,none⟩) (Fu A M k).length c) (Fu A M k).length (Ap (Fu A M k)))) (fun _ kv _=>2-(intOf kv).toNat)
   case atStart=>exact⟨0,_,_,by omega,rfl,rfl,HB.out,HO.out⟩
   case round =>
    obtain⟨k,g,c,hk,rfl,rfl,HBB,HOO⟩:=hrel;have HC0':=Aoy ((HBB.out.cell (p:=⟨sb,0,none⟩) (Apw w _ HC0.out)).trans HC0.out);have HC1':=Aoy ((HBB.out.cell (p:=⟨sb,1,none⟩) (Apw w _ HC1.out)).trans HC1.out)
    rcases(show k=0\/k=1\/k=2 by omega)with rfl|rfl|rfl
    ·have c0:=HC0'.out;obtain⟨v',w3,hr,h1,h2,h3⟩:=A6u _ _ _ _ _ HOO.out (by simp) B (.slice a1 na a2) A (by have:=Ab HA.out HBB.out;rwa [HNA.out]) (by have:=HNA.out;simp only[Fu,Aun];omega) HBB.out.size
     obtain⟨g3,c3,hv3⟩:=A38 h1 h3;have H3:=Aoy (And.intro h1 (HBB.out.grown h2 HBB.out.size (fun j hj=>(Cu HOO.out hj).1)))
     clear h1 h2 h3
     go_wp2_with (at_builtin;refine Iq _ w3 rfl _ _ _ _ rfl _ (.slice a1 na a2) v' rfl rfl hr ?_)
     go_roundw
     case rel =>
      have h1:=H3.out.1;have e:(Fu A M 0).length+A.length=(Fu A M 1).length:=by simp[Fu]
      have e2:Ap (Fu A M 0)++Ap A=Ap (Fu A M 1):=by simp[Fu,Ap]
      rw[e,e2]at h1;rw[e]at hv3
      exact⟨1,g3,c3,by omega,by go_num,by rw[e],H3.out.2,by rw[<-hv3];exact h1⟩
     case measure=>simp[intOf]
    ·have c1:=HC1'.out;obtain⟨v',w3,hr,h1,h2,h3⟩:=A6u _ _ _ _ _ HOO.out (by simp) B (.slice m1 nm m2) M (by have:=Ab HM.out HBB.out;rwa [HNM.out]) (by have:=HNA.out;have:=HNM.out;simp only[Fu];omega) HBB.out.size
     obtain⟨g3,c3,hv3⟩:=A38 h1 h3;have H3:=Aoy (And.intro h1 (HBB.out.grown h2 HBB.out.size (fun j hj=>(Cu HOO.out hj).1)))
     clear h1 h2 h3
     go_wp2_with (at_builtin;refine Iq _ w3 rfl _ _ _ _ rfl _ (.slice m1 nm m2) v' rfl rfl hr ?_)
     go_roundw
     case rel =>
      have h1:=H3.out.1;have e:(Fu A M 1).length+M.length=(Fu A M 2).length:=by simp[Fu]
      have e2:Ap (Fu A M 1)++Ap M=Ap (Fu A M 2):=by simp[Fu,Ap]
      rw[e,e2]at h1;rw[e]at hv3
      exact⟨2,g3,c3,by omega,by go_num,by rw[e],H3.out.2,by rw[<-hv3];exact h1⟩
     case measure=>simp[intOf]
    ·go_wp2
     go_ret
     refine⟨_,rfl,?_,HBB.out⟩
     have h1:=HOO.out;have e:(Fu A M 2).length=na+nm:=by rw[<-HNA.out,<-HNM.out];simp[Fu]
     rw[e]at h1 ⊢
     exact h1
end
section
open Go.Shelf Go.Proofs
def Al7:Ren where
 f:=fun x=>match x with|6=>41|15=>64|14=>63|28=>90|29=>91|20=>82|21=>83|22=>84|23=>85|24=>86|25=>87|26=>88|27=>89|46=>116|47=>117|48=>118|49=>119|50=>120|57=>136|n=>n
 t:=fun x=>match x with|22=>48|24=>52|25=>91|3=>3|39=>120|0=>0|53=>145|55=>147|4=>4|46=>139|45=>138|50=>65|5=>5|9=>9|66=>171|70=>175|76=>188|77=>151|n=>n
 g:=fun n=>n
theorem Aos:SlLaysF0.n6 Vp.prog Al7 where
 mixed:=by kernel_rfl
 f6 := ⟨ "slices.SortFunc[[]loop.example/quadraticorbits/impl.planTile,loop.example/quadraticorbits/impl.planTile]", by decide,Vp.func41.trans (by kernel_rfl)⟩
 f14 := ⟨ "slices.pdqsortCmpFunc[loop.example/quadraticorbits/impl.planTile]", by decide,Vp.func63.trans (by kernel_rfl)⟩
 f15:=Vp.func64.trans (by kernel_rfl)
 f20 := ⟨ "slices.insertionSortCmpFunc[loop.example/quadraticorbits/impl.planTile]", by decide,Vp.func82.trans (by kernel_rfl)⟩
 f21 := ⟨ "slices.heapSortCmpFunc[loop.example/quadraticorbits/impl.planTile]", by decide,Vp.func83.trans (by kernel_rfl)⟩
 f22 := ⟨ "slices.breakPatternsCmpFunc[loop.example/quadraticorbits/impl.planTile]", by decide,Vp.func84.trans (by kernel_rfl)⟩
 f23 := ⟨ "slices.choosePivotCmpFunc[loop.example/quadraticorbits/impl.planTile]", by decide,Vp.func85.trans (by kernel_rfl)⟩
 f24 := ⟨ "slices.reverseRangeCmpFunc[loop.example/quadraticorbits/impl.planTile]", by decide,Vp.func86.trans (by kernel_rfl)⟩
 f25 := ⟨ "slices.partialInsertionSortCmpFunc[loop.example/quadraticorbits/impl.planTile]", by decide,Vp.func87.trans (by kernel_rfl)⟩
 f26 := ⟨ "slices.partitionEqualCmpFunc[loop.example/quadraticorbits/impl.planTile]", by decide,Vp.func88.trans (by kernel_rfl)⟩
 f27 := ⟨ "slices.partitionCmpFunc[loop.example/quadraticorbits/impl.planTile]", by decide,Vp.func89.trans (by kernel_rfl)⟩
 f28:=Vp.func90.trans (by kernel_rfl)
 f29:=Vp.func91.trans (by kernel_rfl)
 f46 := ⟨ "slices.siftDownCmpFunc[loop.example/quadraticorbits/impl.planTile]", by decide,Vp.func116.trans (by kernel_rfl)⟩
 f47:=Vp.func117.trans (by kernel_rfl)
 f48:=Vp.func118.trans (by kernel_rfl)
 f49 := ⟨ "slices.medianAdjacentCmpFunc[loop.example/quadraticorbits/impl.planTile]", by decide,Vp.func119.trans (by kernel_rfl)⟩
 f50 := ⟨ "slices.medianCmpFunc[loop.example/quadraticorbits/impl.planTile]", by decide,Vp.func120.trans (by kernel_rfl)⟩
 f57 := ⟨ "slices.order2CmpFunc[loop.example/quadraticorbits/impl.planTile]", by decide,Vp.func136.trans (by kernel_rfl)⟩
 t0:=Vp.Dw Tryz.underlying0
 a0:=fun w=>(Vp.Bo _ w).trans (Tryz.isAgg0 w)
 z0:=fun w=>(Vp.run_sizeOf _ w).trans (Tryz.sizeOf0 w)
 v0:=fun w=>(Vp.Ak _ w).trans (Tryz.zeroValue0 w)
 t3:=Vp.Dw Tryz.underlying3
 a3:=fun w=>(Vp.Bo _ w).trans (Tryz.isAgg3 w)
 z3:=fun w=>(Vp.run_sizeOf _ w).trans (Tryz.sizeOf3 w)
 v3:=fun w=>(Vp.Ak _ w).trans (Tryz.zeroValue3 w)
 t4:=Vp.Dw Tryz.underlying4
 a4:=fun w=>(Vp.Bo _ w).trans (Tryz.isAgg4 w)
 z4:=fun w=>(Vp.run_sizeOf _ w).trans (Tryz.sizeOf4 w)
 v4:=fun w=>(Vp.Ak _ w).trans (Tryz.zeroValue4 w)
 t5:=Vp.Dw Tryz.underlying5
 a5:=fun w=>(Vp.Bo _ w).trans (Tryz.isAgg5 w)
 z5:=fun w=>(Vp.run_sizeOf _ w).trans (Tryz.sizeOf5 w)
 v5:=fun w=>(Vp.Ak _ w).trans (Tryz.zeroValue5 w)
 t9:=Vp.Dw Tryz.underlying9
 a9:=fun w=>(Vp.Bo _ w).trans (Tryz.isAgg9 w)
 z9:=fun w=>(Vp.run_sizeOf _ w).trans (Tryz.sizeOf9 w)
 v9:=fun w=>(Vp.Ak _ w).trans (Tryz.zeroValue9 w)
 t22:=Vp.Dw Tryz.underlying48
 a22:=fun w=>(Vp.Bo _ w).trans (Tryz.isAgg48 w)
 z22:=fun w=>(Vp.run_sizeOf _ w).trans (Tryz.sizeOf48 w)
 v22:=fun w=>(Vp.Ak _ w).trans (Tryz.zeroValue48 w)
 t25:=Vp.Dw Tryz.underlying91
 a25:=fun w=>(Vp.Bo _ w).trans (Tryz.isAgg91 w)
 z25:=fun w=>(Vp.run_sizeOf _ w).trans (Tryz.sizeOf91 w)
 v25:=fun w=>(Vp.Ak _ w).trans (Tryz.zeroValue91 w)
 t39:=Vp.Dw Tryz.underlying120
 a39:=fun w=>(Vp.Bo _ w).trans (Tryz.isAgg120 w)
 z39:=fun w=>(Vp.run_sizeOf _ w).trans (Tryz.sizeOf120 w)
 v39:=fun w=>(Vp.Ak _ w).trans (Tryz.zeroValue120 w)
 t45:=Vp.Dw Tryz.underlying138
 a45:=fun w=>(Vp.Bo _ w).trans (Tryz.isAgg138 w)
 z45:=fun w=>(Vp.run_sizeOf _ w).trans (Tryz.sizeOf138 w)
 v45:=fun w=>(Vp.Ak _ w).trans (Tryz.zeroValue138 w)
 t46:=Vp.Dw Tryz.underlying139
 a46:=fun w=>(Vp.Bo _ w).trans (Tryz.isAgg139 w)
 z46:=fun w=>(Vp.run_sizeOf _ w).trans (Tryz.sizeOf139 w)
 v46:=fun w=>(Vp.Ak _ w).trans (Tryz.zeroValue139 w)
 t50:=Vp.Dw Tryz.underlying65
 a50:=fun w=>(Vp.Bo _ w).trans (Tryz.isAgg65 w)
 z50:=fun w=>(Vp.run_sizeOf _ w).trans (Tryz.sizeOf65 w)
 v50:=fun w=>(Vp.Ak _ w).trans (Tryz.zeroValue65 w)
 t53:=Vp.Dw Tryz.underlying145
 a53:=fun w=>(Vp.Bo _ w).trans (Tryz.isAgg145 w)
 z53:=fun w=>(Vp.run_sizeOf _ w).trans (Tryz.sizeOf145 w)
 v53:=fun w=>(Vp.Ak _ w).trans (Tryz.zeroValue145 w)
 t55:=Vp.Dw Tryz.underlying147
 a55:=fun w=>(Vp.Bo _ w).trans (Tryz.isAgg147 w)
 z55:=fun w=>(Vp.run_sizeOf _ w).trans (Tryz.sizeOf147 w)
 v55:=fun w=>(Vp.Ak _ w).trans (Tryz.zeroValue147 w)
 t66:=Vp.Dw Tryz.underlying171
 a66:=fun w=>(Vp.Bo _ w).trans (Tryz.isAgg171 w)
 z66:=fun w=>(Vp.run_sizeOf _ w).trans (Tryz.sizeOf171 w)
 v66:=fun w=>(Vp.Ak _ w).trans (Tryz.zeroValue171 w)
 t70:=Vp.Dw Tryz.underlying175
 a70:=fun w=>(Vp.Bo _ w).trans (Tryz.isAgg175 w)
 z70:=fun w=>(Vp.run_sizeOf _ w).trans (Tryz.sizeOf175 w)
 v70:=fun w=>(Vp.Ak _ w).trans (Tryz.zeroValue175 w)
 t76:=Vp.Dw Tryz.underlying188
 a76:=fun w=>(Vp.Bo _ w).trans (Tryz.isAgg188 w)
 z76:=fun w=>(Vp.run_sizeOf _ w).trans (Tryz.sizeOf188 w)
 v76:=fun w=>(Vp.Ak _ w).trans (Tryz.zeroValue188 w)
 t77:=Vp.Dw Tryz.underlying151
 a77:=fun w=>(Vp.Bo _ w).trans (Tryz.isAgg151 w)
 z77:=fun w=>(Vp.run_sizeOf _ w).trans (Tryz.sizeOf151 w)
 v77:=fun w=>(Vp.Ak _ w).trans (Tryz.zeroValue151 w)
end
section
open Go.RowKit Go.Sort Go.Shelf
attribute [local go_sem ↓] Go.wp_at_zero Go.wp_at_succ
def Ab7 (x y:ByteArray):Int:=if Op.bytesLess x.toList y.toList=true then -1 else if Op.bytesLess y.toList x.toList=true then 1 else 0
def A4i (a b:Ae):Int:=Ab7 a.path b.path
theorem A13 {x y:List UInt8}(h:Op.bytesLess x y=false)(g:Op.bytesLess y x=false):x=y:=by
 rw[bytesLess_eq]at *;simp only[Asg,List.not_lt]at *
 exact List.le_antisymm g h
theorem Ahd (x y:List UInt8):(!(Op.bytesLess x y || x == y))=Op.bytesLess y x:=by
 cases h:Op.bytesLess x y with
 | true =>
   cases g:Op.bytesLess y x with
   | true =>
     have:=O9 h g;rw[Jh]at this
     cases this
   | false=>rfl
 | false =>
   cases g:Op.bytesLess y x with
   | true =>
     have:(x == y)=false:=by
      rw[beq_eq_false_iff_ne];rintro rfl;rw[Jh]at g
      cases g
     rw[this];rfl
   | false =>
     rw[A13 h g];simp
theorem Oo (a b:Ae):ltOf A4i a b=Op.bytesLess a.path.toList b.path.toList:=by
 unfold ltOf A4i Ab7
 cases h:Op.bytesLess a.path.toList b.path.toList with
 | true=>simp
 | false =>
   cases g:Op.bytesLess b.path.toList a.path.toList<;>simp
theorem Aot:SWO (ltOf A4i) where
 irrefl x:=by rw[Oo];exact Jh _
 trans x y z h g:=by rw[Oo]at *;exact O9 h g
 ntrans x y z h g:=by rw[Oo]at *;exact Wp h g
theorem A2i (x:ByteArray)(w:World):Calls Vp.prog 65 #[.string x] w fun e w'=>e=.returned (.bool false)/\w'=w:=by
 go_enter Vp.func65,Tryz.ntmps65
 go_wp2
 go_ret
 exact⟨by simp,rfl⟩
theorem A4m (x y:ByteArray)(w:World):Calls Vp.prog 43 #[.string x,.string y] w fun e w'=>e=.returned (.int .i64 (Ab7 x y))/\w'=w:=by
 have N1:=A2i x w;have N2:=A2i y w;have g:=Ahd x.toList y.toList;unfold Ab7
 cases h:Op.bytesLess x.toList y.toList with
 | true =>
   rw[Apb rfl];clear g
   go_enter Vp.func43,Tryz.ntmps43
   go_wp2_with fail
   refine N1.mono ?_
   rintro e w' ⟨rfl,rfl⟩
   go_wp2_with fail
   refine N2.mono ?_
   rintro e w' ⟨rfl,rfl⟩
   go_wp2
   go_ret
   exact⟨rfl,rfl⟩
 | false =>
   rw[h]at g;rw[Ap8 (by simp)]
   cases h2:Op.bytesLess y.toList x.toList with
   | true =>
     rw[h2]at g;replace g:(x.toList == y.toList)=false:=by simpa using g
     rw[Apb rfl]
     go_enter Vp.func43,Tryz.ntmps43
     go_wp2_with fail
     refine N1.mono ?_
     rintro e w' ⟨rfl,rfl⟩
     go_wp2_with fail
     refine N2.mono ?_
     rintro e w' ⟨rfl,rfl⟩
     go_wp2
     go_ret
     exact⟨rfl,rfl⟩
   | false =>
     rw[h2]at g;replace g:(x.toList == y.toList)=true:=by simpa using g
     rw[Ap8 (by simp)]
     go_enter Vp.func43,Tryz.ntmps43
     go_wp2_with fail
     refine N1.mono ?_
     rintro e w' ⟨rfl,rfl⟩
     go_wp2_with fail
     refine N2.mono ?_
     rintro e w' ⟨rfl,rfl⟩
     go_wp2
     go_ret
     exact⟨rfl,rfl⟩
theorem A4j (a b:Ae)(w:World):Calls Vp.prog 42 #[.agg (Ah a).toArray,.agg (Ah b).toArray] w fun e w'=>e=.returned (.int .i64 (A4i a b))/\Grn w w':=by
 have e1:(Ah a).toArray=#[.complex .f32 a.t.cx a.t.cy,.int .i64 a.t.deep,.int .i64 a.t.size,.slice (some ⟨a.t.gs,0,none⟩) a.t.n a.t.cs,.slice (some ⟨a.t.gm,0,none⟩) a.t.n a.t.cm,.string a.path,.int .i64 a.opn]:=rfl;have e2:(Ah b).toArray=#[.complex .f32 b.t.cx b.t.cy,.int .i64 b.t.deep,.int .i64 b.t.size,.slice (some ⟨b.t.gs,0,none⟩) b.t.n b.t.cs,.slice (some ⟨b.t.gm,0,none⟩) b.t.n b.t.cm,.string b.path,.int .i64 b.opn]:=rfl;have X:=(A9.new w (Ah a).toArray 52).alloc (.cells (Ah b).toArray 52);have Y:=A9.new (w.alloc (.cells (Ah a).toArray 52)) (Ah b).toArray 52;rw[Apl]at Y;rw[e1,e2]at X Y ⊢;have x5:=X.cell 5 _ rfl;have y5:=Y.cell 5 _ rfl;clear X Y;have HG:Hid (∀o1 o2:Obj,Grn w ((w.alloc o1).alloc o2)):=fun o1 o2=>⟨0,#[o1,o2],by rw[alloc_eq_grow,alloc_eq_grow,grow_grow];rfl⟩
 have C:=fun W:World=>A4m a.path b.path W
 rw[show Ab7 a.path b.path=A4i a b from rfl]at C;generalize A4i a b=r at *
 go_enter Vp.func42,Tryz.ntmps42
 go_wp2_with fail
 refine(C _).mono ?_
 rintro e w' ⟨rfl,rfl⟩
 go_wp2
 go_ret
 exact⟨rfl,HG.out _ _⟩
end
section
open Go.RowKit Go.Sort Go.Shelf
attribute [local go_sem ↓] Go.wp_at_zero Go.wp_at_succ
theorem A71 (p:Ae)(j:Nat)(hj:j<7):(Ah p)[j]?=some (Ah p)[j]!:=by
 have h:j <(Ah p).length:=by rw[Fy];exact hj
 rw[Apd h,As7 (Ah p) j h]
theorem E1.holds {g cap:Nat}{d:Array Ae}{w:World}(h:E1 g cap d w):HoldsK Ah 7 w g 0 d:=by
 intro t ht;rw[size_flatK]at ht;have hk:t / 7<d.size:=by omega
 have hj:t % 7<7:=Ara _ (by decide)
 refine⟨?_,h.free _⟩
 have:=h.cell hk (j:=t % 7) (v:=(Ah d[t / 7]!)[t % 7]!) (A71 _ _ hj);rw[show t / 7*7+t % 7=t by omega]at this
 rw[Aqr,this,get_flatK Ah 7 d t ht]
 rfl
theorem A3k {w:World}{g n:Nat}{d:Array Ae}{os:Array Obj}{k:Nat}(hk:k<w.heap.size)(hne:k≠g):(sortWorldK Ah 7 w g 0 n d os).heap[k]?=w.heap[k]?:=by
 show((w.heap.modify g _)++os)[k]?=_
 rw[At0 (by rw[Array.size_modify];exact hk),Array.getElem?_modify,Ap8 (Asb hne)]
theorem A9v {w:World}{g n:Nat}{d:Array Ae}{os:Array Obj}{cur:Array Value}{T:TypeId}{f:Nat×Nat}(h:w.heap[g]?=some (.cells cur T f)):∃cur',(sortWorldK Ah 7 w g 0 n d os).heap[g]?=some (.cells cur' T f)/\cur'.size=cur.size:=by
 have hlt:=(Aoz.1 h).1
 refine⟨putCells id 0 (flatK Ah 7 d) cur,?_,by simp[putCells]⟩
 show((w.heap.modify g _)++os)[g]?=_
 rw[At0 (by rw[Array.size_modify];exact hlt),Array.getElem?_modify,Apb rfl,h]
 rfl
theorem E1.sorted {g cap n:Nat}{d d':Array Ae}{os:Array Obj}{w:World}(h:E1 g cap d w)(hs:d'.size=d.size):E1 g cap d' (sortWorldK Ah 7 w g 0 n d' os)/\C7 g w (sortWorldK Ah 7 w g 0 n d' os):=by
 have hh:=holdsK_sortWorldK Ah 7 w g 0 n d d' os h.lt h.holds hs;obtain⟨cur,h1,h2,h3,h4⟩:=h;obtain⟨cur',c1,c2⟩:=A9v (n:=n) (d:=d') (os:=os) h1
 refine⟨⟨cur',c1,c2.trans h2,by omega,fun k hk j hj=>?_⟩,⟨rfl,rfl,rfl,?_,fun k hk hne=>A3k hk hne⟩⟩
 ·have e:=A71 d'[k]! j hj;have hc:=(hh.cell hk hj).1;unfold World.cell? at hc;rw[c1]at hc;rw[e]
  simpa using hc
 ·show w.heap.size <=((w.heap.modify g _)++os).size
  simp
theorem A7u (B g cap n:Nat)(L:List Ae)(hL:L.length=n)(hn:n<=1000)(w:World)(h:w.ownsRow B 52 7 (.slice (some ⟨g,0,none⟩) n cap) n (Ap L)) :
 Calls Vp.prog 41 #[.slice (some ⟨g,0,none⟩) n cap,.func (.func 42) #[] #[]] w fun e w'=>e=.returned (.tuple #[]) /\
  ∃L',L'.Perm L/\L'.length=n /\(∀i j,i<j->j<n->Op.bytesLess (L'.toArray[j]!).path.toList (L'.toArray[i]!).path.toList=false)/\w'.ownsRow B 52 7 (.slice (some ⟨g,0,none⟩) n cap) n (Ap L')/\C7 g w w':=by
 obtain⟨R,hB,hc⟩:=H9 (d:=L.toArray) (by simpa using h) (by simpa using hL)
 have hsz:L.toArray.size=n:=by simpa using hL
 have key:=AnyQ.slices_SortFunc (P:=Vp.prog) (ρ:=Al7) Aos 7 (fun w=>(Vp.Bo _ w).trans (Tryz.isAgg52 w)) (fun w=>(Vp.run_sizeOf _ w).trans (Tryz.sizeOf52 w)) Ah Fy Jl A4i Aot 42 #[] g 0 cap L.toArray w
  (fun args w=>Vp.call42 args w) (fun m os dk hs x y=>by
   refine(A4j x y _).mono ?_
   rintro e w' ⟨rfl,q,os',rfl⟩
   exact⟨rfl,q,os',rfl⟩) R.holds R.lt (by rw[hsz];omega)
 rw[hsz]at key
 refine key.mono ?_
 rintro e w' ⟨rfl,d',m,os,hp,hsd,rfl⟩;have hs':d'.size=L.toArray.size:=hp.1;obtain⟨R',O'⟩:=R.sorted (n:=m) (os:=os) hs'
 refine⟨rfl,d'.toList,?_,by rw[Aqw,hs',hsz],fun i j hij hj=>?_,?_,O'⟩
 ·have h2:=hp.2.2;rw[show d'.extract 0 n=d'.extract 0 d'.size by rw[hs',hsz],Me,<-hsz,Me]at h2
  exact h2
 ·have:=hsd i j (Aq1 _) hij hj;rw[Oo]at this
  simpa using this
 ·have:=J2 R' hB hc n (by omega)
  rwa [Ar3 (by rw[Aqw];omega)]at this
end
section
structure Hl where
 opn:List UInt8->Int
 deep:List UInt8->Int
 sp:List UInt8->Prop
def Hl.Ca (E:Hl)(p:List UInt8):Prop:=0<E.opn p/\E.deep p<10
def Hl.ahead (E:Hl)(p q:List UInt8):Prop:=E.opn q<E.opn p \/(E.opn p=E.opn q/\Op.bytesLess p q=true)
structure Hl.Rf (E:Hl)(G:List (List UInt8))(p:List UInt8):Prop where
 mem:p∈G
 Ca:E.Ca p
 Ahc:∀q,q∈G->E.Ca q->q=p\/E.ahead p q
def kids (p:List UInt8):List (List UInt8):=[p++[48],p++[49],p++[50],p++[51]]
inductive Hl.Eu (E:Hl):Nat->List (List UInt8)->Option (List (List UInt8))->Prop
 | zero (G:List (List UInt8)):Eu E 0 G (some G)
 | stop (n:Nat) (G:List (List UInt8)):(∀p,p∈G->¬E.Ca p)->Eu E n G (some G)
 | fail (n:Nat) (G:List (List UInt8)) (p:List UInt8):E.Rf G p->¬E.sp p->Eu E (n+1) G none
 | step (n:Nat) (G G1:List (List UInt8)) (p:List UInt8) (r:Option (List (List UInt8))):E.Rf G p->E.sp p->G1.Perm (kids p++G.erase p)->Eu E n G1 r->Eu E (n+1) G r
def E9:Option (List (List UInt8))->Option (List (List UInt8))->Prop
 | none,none=>True
 | some a,some b=>a.Perm b
 | _,_=>False
theorem Hl.Rf.perm {E:Hl}{G H:List (List UInt8)}{p:List UInt8}(h:E.Rf G p)(k:G.Perm H):E.Rf H p:=⟨k.mem_iff.1 h.mem,h.Ca,fun q hq=>h.Ahc q (k.mem_iff.2 hq)⟩
theorem Hl.Ab1 {E:Hl}{p q:List UInt8}(h:E.ahead p q)(g:E.ahead q p):False:=by
 rcases h with h |⟨h,h2⟩<;>rcases g with g |⟨g,g2⟩
 ·omega
 ·omega
 ·omega
 ·have:=O9 h2 g2;rw[Jh]at this
  cases this
theorem Hl.Rf.uniq {E:Hl}{G:List (List UInt8)}{p q:List UInt8}(h:E.Rf G p)(k:E.Rf G q):q=p:=by
 rcases h.Ahc q k.mem k.Ca with e|e
 ·exact e
 ·rcases k.Ahc p h.mem h.Ca with f|f
  ·exact f.symm
  ·exact(E.Ab1 e f).elim
theorem Hl.Eu.det {E:Hl}{n:Nat}{G:List (List UInt8)}{r:Option (List (List UInt8))}(h:E.Eu n G r):∀{H:List (List UInt8)} {r':Option (List (List UInt8))},G.Perm H->E.Eu n H r'->E9 r r':=by
 induction h with
 | zero G =>
   intro H r' hp k
   cases k with
   | zero=>exact hp
   | stop=>exact hp
 | stop n G hg =>
   intro H r' hp k
   cases k with
   | zero=>exact hp
   | stop=>exact hp
   | fail n _ p hk _=>exact absurd hk.Ca (hg p (hp.mem_iff.2 hk.mem))
   | step n _ _ p r hk _ _ _=>exact absurd hk.Ca (hg p (hp.mem_iff.2 hk.mem))
 | fail n G p hk hs =>
   intro H r' hp k
   cases k with
   | stop _ _ hg=>exact absurd hk.Ca (hg p (hp.mem_iff.1 hk.mem))
   | fail=>trivial
   | step _ _ _ q _ hk' hs' =>
     obtain rfl:=(hk.perm hp).uniq hk'
     exact absurd hs' hs
 | step n G G1 p r hk hs h1 h2 ih =>
   intro H r' hp k
   cases k with
   | stop _ _ hg=>exact absurd hk.Ca (hg p (hp.mem_iff.1 hk.mem))
   | fail _ _ q hk' hs' =>
     obtain rfl:=(hk.perm hp).uniq hk'
     exact absurd hs hs'
   | step _ _ H1 q _ hk' hs' g1 g2 =>
     obtain rfl:=(hk.perm hp).uniq hk'
     exact ih (h1.trans ((Ast _ (hp.erase q)).trans g1.symm)) g2
def Left (p q:List UInt8):Prop:=∃(c:List UInt8) (a b:UInt8) (r s:List UInt8),p=c++a :: r/\q=c++b :: s/\a<b
theorem Left.on {p q:List UInt8}(h:Left p q)(x y:List UInt8):Left (p++x) (q++y):=by
 obtain⟨c,a,b,r,s,rfl,rfl,hl⟩:=h
 exact⟨c,a,b,r++x,s++y,by simp,by simp,hl⟩
theorem Left.less {p q:List UInt8}(h:Left p q):Op.bytesLess p q=true:=by
 obtain⟨c,a,b,r,s,rfl,rfl,hl⟩:=h
 induction c with
 | nil=>simp[Op.bytesLess,hl]
 | cons x c ih =>
   rw[Ars,Ars];unfold Op.bytesLess;rw[ih];simp
theorem A98 (p:List UInt8):(kids p).Pairwise Left:=by
 have h:∀a b:UInt8,a<b->Left (p++[a]) (p++[b]):=fun a b hl=>⟨p,a,b,[],[],rfl,rfl,hl⟩
 unfold kids;simp only[List.pairwise_cons,Aqe,Aqc,As6,List.Pairwise.nil,and_true]
 refine⟨?_,?_,?_,?_⟩
 ·rintro q (rfl|rfl|rfl)<;>exact h _ _ (by decide)
 ·rintro q (rfl|rfl)<;>exact h _ _ (by decide)
 ·rintro q rfl;exact h _ _ (by decide)
 ·intro q hq;exact hq.elim
theorem Tu {A B:List (List UInt8)}{p:List UInt8}(h:(A++p :: B).Pairwise Left):(A++kids p++B).Pairwise Left:=by
 rw[List.pairwise_append]at h;obtain⟨hA,hB,hAB⟩:=h;rw[List.pairwise_cons]at hB
 have hk:∀k,k∈kids p->∃a,k=p++[a]:=fun k hk=>by
  unfold kids at hk;simp only[Aqe,Aqc,As6]at hk
  rcases hk with rfl|rfl|rfl|rfl<;>exact⟨_,rfl⟩
 rw[List.pairwise_append]
 refine⟨?_,hB.2,fun a ha b hb=>?_⟩
 ·rw[List.pairwise_append]
  refine⟨hA,A98 p,fun a ha k hk'=>?_⟩
  obtain⟨x,rfl⟩:=hk k hk';have:=(hAB a ha p (by simp)).on [] [x]
  rwa [Ass]at this
 ·rcases Aq9.1 ha with ha|ha
  ·exact hAB a ha b (by simp[hb])
  ·obtain⟨x,rfl⟩:=hk a ha;have:=(hB.1 b hb).on [x] []
   rwa [Ass]at this
theorem Kf:∀{A B:List (List UInt8)},A.Perm B->A.Pairwise Left->B.Pairwise (fun a b=>Op.bytesLess b a=false)->A=B
 | [],B,hp,_,_=>(List.Perm.eq_nil hp.symm).symm
 | a :: A,[],hp,_,_=>by simpa using hp.length_eq
 | a :: A,b :: B,hp,h1,h2=>by
   rw[List.pairwise_cons]at h1 h2
   have e:a=b:=by
    rcases Aqe.1 (hp.mem_iff.1 (List.mem_cons_self (a:=a) (l:=A)))with e|e
    ·exact e
    ·rcases Aqe.1 (hp.mem_iff.2 (List.mem_cons_self (a:=b) (l:=B)))with f|f
     ·exact f.symm
     ·have:=(h1.1 b f).less;rw[h2.1 a e]at this
      cases this
   subst e;rw[Kf (List.Perm.cons_inv hp) h1.2 h2.2]
end
section
open Go.RowKit Go.Sort Flo
theorem toList_data (b:ByteArray):b.toList=b.data.toList:=by
 rw[Arp]
structure F8 where
 s:Int
 A4:Int
 x0:Nat
 y0:Nat
 d0:Nat
structure J7 (c:F8)(bs:List UInt8)(t:Aj):Prop where
 path:∃dd:Nat,t.deep=dd/\Gw c.s bs c.x0 c.y0 c.d0 t.cx t.cy dd
 size:t.size=c.s
 Ca:Dq c.A4 t
theorem J7.same {c:F8}{bs:List UInt8}{t u:Aj}(h:J7 c bs t)(g:J7 c bs u):t.cx=u.cx/\t.cy=u.cy/\t.deep=u.deep/\t.xs=u.xs/\t.ys=u.ys:=by
 obtain⟨d1,e1,h1⟩:=h.path;obtain⟨d2,e2,h2⟩:=g.path;obtain⟨p1,p2,p3⟩:=h1.fn h2;have hd:t.deep=u.deep:=by rw[e1,e2,p3]
 obtain⟨q1,q2⟩:=h.Ca.same g.Ca p1 p2 hd (h.size.trans g.size.symm)
 exact⟨p1,p2,hd,q1,q2⟩
open Classical in
noncomputable def Iu (c:F8)(v:Int)(bs:List UInt8):Int:=if h:∃t,J7 c bs t then(cnt v h.choose.ys:Nat)else 0
theorem I8 {c:F8}{bs:List UInt8}{t:Aj}(h:J7 c bs t)(v:Int):Iu c v bs=(cnt v t.ys:Nat):=by
 have hx:∃t,J7 c bs t:=⟨t,h⟩;unfold Iu;rw[dif_pos hx,(hx.choose_spec.same h).2.2.2.2]
noncomputable def D5 (c:F8):Hl where
 opn:=Iu c 0
 deep bs:=(c.d0:Int)+bs.length
 sp bs:=∃x y dd:Nat,Gw c.s bs c.x0 c.y0 c.d0 x y dd/\L9 x y dd c.s
theorem J7.deep {c:F8}{bs:List UInt8}{t:Aj}(h:J7 c bs t):t.deep=(D5 c).deep bs:=by
 obtain⟨d,e,h1⟩:=h.path;rw[e,h1.len]
 show((c.d0+bs.length:Nat):Int)=_
 unfold D5;simp
theorem J7.sp {c:F8}{bs:List UInt8}{t:Aj}(h:J7 c bs t){d:Nat}(hd:t.deep=d):(D5 c).sp bs↔L9 t.cx t.cy d c.s:=by
 obtain⟨d',e,h1⟩:=h.path;have e2:d=d':=by omega
 subst e2
 constructor
 ·rintro⟨x,y,dd,h2,h3⟩;obtain⟨rfl,rfl,rfl⟩:=h2.fn h1
  exact h3
 ·intro h3
  exact⟨_,_,_,h1,h3⟩
theorem Gw.snoc {s:Int}:∀{bs:List UInt8} {cx cy d x y dd:Nat},Gw s bs cx cy d x y dd->∀(c:UInt8),dig c->L9 x y dd s->Gw s (bs++[c]) cx cy d (Bj x y dd s (c.toNat-48)).1 (Bj x y dd s (c.toNat-48)).2 (dd+1)
 | [],_,_,_,_,_,_,⟨rfl,rfl,rfl⟩,_,hc,hs=>⟨hc,hs,rfl,rfl,rfl⟩
 | _ :: _,_,_,_,_,_,_,⟨h1,h2,h3⟩,c,hc,hs=>⟨h1,h2,Gw.snoc h3 c hc hs⟩
theorem J7.kid {c:F8}{bs:List UInt8}{t u:Aj}(h:J7 c bs t){d:Nat}(hd:t.deep=d)(hs:L9 t.cx t.cy d c.s){k:Nat}(hk:k<4)(h1:u.cx=(Bj t.cx t.cy d c.s k).1)(h2:u.cy=(Bj t.cx t.cy d c.s k).2)(h3:u.deep=(d:Int)+1)(h4:u.size=c.s)(h5:Dq c.A4 u) :
 J7 c (bs++[UInt8.ofNat (48+k)]) u:=by
 obtain⟨d',e,hp⟩:=h.path;have e2:d=d':=by omega
 subst e2
 have hc:(UInt8.ofNat (48+k)).toNat=48+k:=by
  rw[UInt8.toNat_ofNat']
  omega
 have:=hp.snoc (UInt8.ofNat (48+k)) (by unfold dig;rw[hc];omega) hs
 rw[hc,Nat.add_sub_cancel_left]at this
 exact⟨⟨d+1,by rw[h3];rfl,by rw[h1,h2];exact this⟩,h4,h5⟩
structure Mz (c:F8)(p:Ae):Prop where
 at_:J7 c p.path.toList p.t
 opn:p.opn=(cnt 0 p.t.ys:Nat)
theorem Mz.Ai9 {c:F8}{p:Ae}(h:Mz c p):(D5 c).opn p.path.toList=p.opn:=by rw[h.opn];exact I8 h.at_ 0
def Fj (L:List Ae):List (List UInt8):=L.map fun p=>p.path.toList
theorem Mn {L M:List Ae}(h:L.Perm M):(Fj L).Perm (Fj M):=h.map _
end
section
open Go.RowKit Go.Sort Flo
attribute [local go_sem ↓] Go.wp_at_zero Go.wp_at_succ
attribute [local go_sem] A7 A5
abbrev rfW (w:World)(v0 v1 v2 v3 v4:Value):World :=
 (((w.alloc (.cells #[v0,v1,v2,v3,v4] 35)).alloc (.cells #[.slice none 0 0,.func (.func 34) #[] #[]] 82)).alloc (.cells #[.pointer (some ⟨w.heap.size+1,0,none⟩)] 79)).alloc (.cells #[.slice none 0 0] 48)
theorem Ad9 (B:Nat)(w:World)(v0 v1 v2 v3 v4:Value):N8 B w (w.heap.size+2) (w.heap.size+3) (w.heap.size+1) [] [] (.slice none 0 0) (.slice none 0 0) (rfW w v0 v1 v2 v3 v4)/\A9 w w.heap.size #[v0,v1,v2,v3,v4] 35 (rfW w v0 v1 v2 v3 v4):=by
 have F:=A9.new w #[v0,v1,v2,v3,v4] 35;have H:=(A9.new (w.alloc (.cells #[v0,v1,v2,v3,v4] 35)) #[.slice none 0 0,.func (.func 34) #[] #[]] 82).up F.old;have R:=(A9.new ((w.alloc (.cells #[v0,v1,v2,v3,v4] 35)).alloc (.cells #[.slice none 0 0,.func (.func 34) #[] #[]] 82)) #[.pointer (some ⟨w.heap.size+1,0,none⟩)] 79).up H.old;have D:=(A9.new (((w.alloc (.cells #[v0,v1,v2,v3,v4] 35)).alloc (.cells #[.slice none 0 0,.func (.func 34) #[] #[]] 82)).alloc (.cells #[.pointer (some ⟨w.heap.size+1,0,none⟩)] 79)) #[.slice none 0 0] 48).up R.old;simp only[Apl]at H R D
 refine⟨⟨⟨(H.alloc _).alloc _,⟨rfl,.inl ⟨rfl,rfl⟩⟩,by omega⟩,R.alloc _,D,⟨rfl,.inl ⟨rfl,rfl⟩⟩,fun k hk=>(by cases hk),by omega,fun p hp=>?_⟩,((F.alloc _).alloc _).alloc _⟩
 rcases hp with hp|hp<;>cases hp
end
section
open Go.RowKit Go.Sort Flo
theorem E9.refl (r:Option (List (List UInt8))):E9 r r:=by
 cases r with
 | none=>trivial
 | some a=>exact At4 a
theorem E9.trans {a b c:Option (List (List UInt8))}(h:E9 a b)(k:E9 b c):E9 a c:=by
 cases a<;>cases b<;>cases c<;>first|trivial|exact h.elim|exact k.elim|exact List.Perm.trans h k
theorem Hl.Eu.perm {E:Hl}{n:Nat}{G H:List (List UInt8)}{r:Option (List (List UInt8))}(hp:G.Perm H)(h:E.Eu n G r):∃r',E.Eu n H r'/\E9 r r':=by
 cases h with
 | zero=>exact⟨_,.zero _,hp⟩
 | stop _ _ hg=>exact⟨_,.stop _ _ fun p hk=>hg p (hp.mem_iff.2 hk),hp⟩
 | fail n _ p hk hs=>exact⟨_,.fail n _ p (hk.perm hp) hs,trivial⟩
 | step n _ G1 p r hk hs h1 h2=>exact⟨_,.step n _ G1 p r (hk.perm hp) hs (h1.trans (Ast _ (hp.erase p))) h2,E9.refl r⟩
def Sj (c:F8)(bd k:Nat)(G:List (List UInt8)):Prop:=∀r,(D5 c).Eu k G r->∃r',(D5 c).Eu bd [[]] r'/\E9 r r'
theorem Sj.perm {c:F8}{bd k:Nat}{G H:List (List UInt8)}(h:Sj c bd k G)(hp:H.Perm G):Sj c bd k H:=fun r hr=>by
 obtain⟨r1,h1,e1⟩:=hr.perm hp;obtain⟨r2,h2,e2⟩:=h r1 h1
 exact⟨r2,h2,e1.trans e2⟩
theorem Tm {c:F8}{p:Ae}(h:Mz c p):(D5 c).Ca p.path.toList↔Gd p=true:=by
 unfold Hl.Ca Gd;rw[h.Ai9,<-h.at_.deep];simp
theorem A8g {c:F8}{p q:Ae}(hp:Mz c p)(hq:Mz c q)(h:Ec q p=false):q.path.toList=p.path.toList \/(D5 c).ahead p.path.toList q.path.toList:=by
 unfold Hl.ahead;rw[hp.Ai9,hq.Ai9];unfold Ec at h
 split at h
 ·rename_i e
  cases g:Op.bytesLess p.path.toList q.path.toList with
  | true=>exact .inr (.inr ⟨e.symm,rfl⟩)
  | false=>exact .inl (A13 h g)
 ·rename_i e
  have:¬p.opn<q.opn:=by simpa using h
  exact .inr (.inl (by omega))
structure RfS (c:F8)(B:Nat)(w:World)(bd k:Nat)(H D:List Ae)(hv dv:Value)(W:World):Prop where
 I:N8 B w (w.heap.size+2) (w.heap.size+3) (w.heap.size+1) H D hv dv W
 ok:Jy Ec H.length H.toArray
 el:∀p,p∈H\/p∈D->Mz c p
 gh:∀p,p∈H->Gd p=true
 gd:∀p,p∈D->Gd p=false
 num:H.length+D.length+3*k=1+3*bd
 run:Sj c bd k (Fj (H++D))
 Wo:Below w.heap.size w W
structure RfM (c:F8)(B:Nat)(w:World)(bd k i:Nat)(ps:List UInt8)(H D:List Ae)(hv dv:Value)(W:World):Prop where
 I:N8 B w (w.heap.size+2) (w.heap.size+3) (w.heap.size+1) H D hv dv W
 ok:Jy Ec H.length H.toArray
 el:∀p,p∈H\/p∈D->Mz c p
 gh:∀p,p∈H->Gd p=true
 gd:∀p,p∈D->Gd p=false
 num:H.length+D.length+3*k+3=3*bd+i
 run:Sj c bd k (Fj (H++D) ++(kids ps).drop i)
 Wo:Below w.heap.size w W
theorem RfM.step {c:F8}{B:Nat}{w:World}{bd k i:Nat}{ps:List UInt8}{H D:List Ae}{hv dv:Value}{W W':World}(h:RfM c B w bd k i ps H D hv dv W)(b:Below W.heap.size W W'):RfM c B w bd k i ps H D hv dv W':=⟨h.I.step b,h.ok,h.el,h.gh,h.gd,h.num,h.run,h.Wo.trans (b.mono h.Wo.size)⟩
theorem RfM.done {c:F8}{B:Nat}{w:World}{bd k:Nat}{ps:List UInt8}{H D:List Ae}{hv dv:Value}{W:World}(h:RfM c B w bd k 4 ps H D hv dv W):RfS c B w bd k H D hv dv W :=
 ⟨h.I,h.ok,h.el,h.gh,h.gd,by have:=h.num;omega,by have:=h.run;simpa [kids]using this,h.Wo⟩
theorem N8.Wo {B:Nat}{w0:World}{rb db hb:Nat}{H D:List Ae}{hv dv:Value}{W W':World}(h:N8 B w0 rb db hb H D hv dv W)(hb':Below w0.heap.size w0 W)(k:Gb (rfS hb db hv dv) W W'):Below w0.heap.size w0 W':=hb'.trans (k.below _ hb'.size h.low)
theorem K0.one {c:F8}{B:Nat}{w:World}{rb db hb:Nat}{H D H' D':List Ae}{p:Ae}(h:(Gd p=true/\H'.Perm (H++[p])/\D'=D) \/(Gd p=false/\H'=H/\D'=D++[p]))(he:Mz c p)(hel:∀q,q∈H\/q∈D->Mz c q)(hg:∀q,q∈H->Gd q=true)(hd:∀q,q∈D->Gd q=false)(_:B=B)(_:w=w)(_:rb=rb)(_:db=db)(_:hb=hb) :
 (∀q,q∈H'\/q∈D'->Mz c q) /\(∀q,q∈H'->Gd q=true) /\(∀q,q∈D'->Gd q=false)/\H'.length+D'.length=H.length+D.length+1 /\(Fj (H'++D')).Perm (Fj (H++D)++[p.path.toList]):=by
 rcases h with⟨h1,h2,rfl⟩ |⟨h1,rfl,rfl⟩
 ·refine⟨fun q hq=>?_,fun q hq=>?_,hd,?_,?_⟩
  ·rcases hq with hq|hq
   ·rcases Aq9.1 (h2.mem_iff.1 hq)with hq|hq
    ·exact hel q (.inl hq)
    ·obtain rfl:q=p:=by simpa using hq
     exact he
   ·exact hel q (.inr hq)
  ·rcases Aq9.1 (h2.mem_iff.1 hq)with hq|hq
   ·exact hg q hq
   ·obtain rfl:q=p:=by simpa using hq
    exact h1
  ·rw[h2.length_eq];simp;omega
  ·have e:Fj (H++D')++[p.path.toList]=Fj (H++D'++[p]):=by simp[Fj]
   rw[e]
   refine Mn ((h2.append_right D').trans ?_)
   rw[Ari,Ari]
   exact Ast _ Atr
 ·refine⟨fun q hq=>?_,hg,fun q hq=>?_,?_,?_⟩
  ·rcases hq with hq|hq
   ·exact hel q (.inl hq)
   ·rcases Aq9.1 hq with hq|hq
    ·exact hel q (.inr hq)
    ·obtain rfl:q=p:=by simpa using hq
     exact he
  ·rcases Aq9.1 hq with hq|hq
   ·exact hd q hq
   ·obtain rfl:q=p:=by simpa using hq
    exact h1
  ·simp;omega
  ·have e:Fj (H'++D)++[p.path.toList]=Fj (H' ++(D++[p])):=by simp[Fj]
   rw[e]
theorem RfM.next {c:F8}{B:Nat}{w:World}{bd k i:Nat}{ps:List UInt8}{H D:List Ae}{hv dv:Value}{W W':World}{p:Ae}(h:RfM c B w bd k i ps H D hv dv W)(hp:K0 B w (w.heap.size+2) (w.heap.size+3) (w.heap.size+1) H D hv dv p W W')(he:Mz c p)(hk:(kids ps).drop i=p.path.toList ::(kids ps).drop (i+1)) :
 ∃H' D' hv' dv',RfM c B w bd k (i+1) ps H' D' hv' dv' W'/\Gb (rfS (w.heap.size+1) (w.heap.size+3) hv dv) W W'/\L7 W hv hv'/\L7 W dv dv':=by
 obtain⟨H',D',hv',dv',I',ok',C',m1,m2,hx⟩:=hp;obtain⟨q1,q2,q3,q4,q5⟩:=K0.one (B:=B) (w:=w) (rb:=0) (db:=0) (hb:=0) hx he h.el h.gh h.gd rfl rfl rfl rfl rfl
 refine⟨H',D',hv',dv',⟨I',ok',q1,q2,q3,by have:=h.num;omega,?_,h.I.Wo h.Wo C'⟩,C',m1,m2⟩
 refine h.run.perm ?_
 rw[hk]
 refine(q5.append_right _).trans ?_
 rw[Ari]
 exact At4 _
theorem RfS.first {c:F8}{B:Nat}{w:World}{bd:Nat}{H D:List Ae}{hv dv:Value}{W W':World}{p:Ae}(I:N8 B w (w.heap.size+2) (w.heap.size+3) (w.heap.size+1) [] [] hv dv W)(hb:Below w.heap.size w W)(hp:K0 B w (w.heap.size+2) (w.heap.size+3) (w.heap.size+1) [] [] hv dv p W W')(he:Mz c p)(hk:p.path.toList=[])(_:H=H)(_:D=D) :
 ∃H' D' hv' dv',RfS c B w bd bd H' D' hv' dv' W':=by
 obtain⟨H',D',hv',dv',I',ok',C',m1,m2,hx⟩:=hp;obtain⟨q1,q2,q3,q4,q5⟩:=K0.one (B:=B) (w:=w) (rb:=0) (db:=0) (hb:=0) hx he (fun q hq=>by rcases hq with hq|hq<;>cases hq) (fun q hq=>by cases hq) (fun q hq=>by cases hq) rfl rfl rfl rfl rfl
 refine⟨H',D',hv',dv',⟨I',ok',q1,q2,q3,by simp at q4;omega,?_,I.Wo hb C'⟩⟩
 have:Sj c bd bd [[]]:=fun r hr=>⟨r,hr,E9.refl r⟩
 refine this.perm ?_
 rw[hk]at q5
 exact q5
theorem RfS.pick {c:F8}{B:Nat}{w:World}{bd k:Nat}{H D L':List Ae}{hv dv:Value}{W:World}{p:Ae}(h:RfS c B w bd k H D hv dv W)(hp:(p :: L').Perm H)(hb:∀q,q∈H->Ec q p=false):(D5 c).Rf (Fj (H++D)) p.path.toList /\((Fj (H++D)).erase p.path.toList).Perm (Fj (L'++D)):=by
 have hm:p∈H:=hp.mem_iff.1 (by simp)
 refine⟨⟨?_,(Tm (h.el p (.inl hm))).2 (h.gh p hm),fun q hq hg=>?_⟩,?_⟩
 ·exact Aq5.2 ⟨p,by simp[hm],rfl⟩
 ·obtain⟨x,hx,rfl⟩:=Aq5.1 hq
  rcases Aq9.1 hx with hx|hx
  ·exact A8g (h.el p (.inl hm)) (h.el x (.inl hx)) (hb x hx)
  ·have:=(Tm (h.el x (.inr hx))).1 hg;rw[h.gd x hx]at this
   cases this
 ·have h1:(Fj (H++D)).Perm (p.path.toList :: Fj (L'++D)):=(Mn ((hp.symm).append_right D)).trans (At4 _);have h2:=h1.erase p.path.toList
  rwa [List.erase_cons_head]at h2
end
end Go.Proofs.YtlfleicchbgcmaaGreat
