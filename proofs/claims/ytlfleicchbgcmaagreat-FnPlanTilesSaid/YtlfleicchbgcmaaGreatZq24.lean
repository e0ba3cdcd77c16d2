import Derived.Test.YtlfleicchbgcmaaGreatZq23
import Derived.Test.YtlfleicchbgcmaaGreatZq0
import Derived.Test.YtlfleicchbgcmaaGreatZqK
set_option linter.all false
set_option maxHeartbeats 16000000
set_option maxRecDepth 100000
namespace Go.Proofs.YtlfleicchbgcmaaGreat
section
open Go.RowKit Go.Sort Flo
theorem Ef.refl (r:Option (List (List UInt8))):Ef r r:=by
 cases r with
 | none=>trivial
 | some a=>exact Amp a
theorem Ef.trans {a b c:Option (List (List UInt8))}(h:Ef a b)(k:Ef b c):Ef a c:=by
 cases a<;>cases b<;>cases c<;>first|trivial|exact h.elim|exact k.elim|exact List.Perm.trans h k
theorem He.Gk.perm {E:He}{n:Nat}{G H:List (List UInt8)}{r:Option (List (List UInt8))}(hp:G.Perm H)(h:E.Gk n G r):∃r',E.Gk n H r'/\Ef r r':=by
 cases h with
 | zero=>exact⟨_,.zero _,hp⟩
 | stop _ _ hg=>exact⟨_,.stop _ _ fun p hk=>hg p (hp.mem_iff.2 hk),hp⟩
 | fail n _ p hk hs=>exact⟨_,.fail n _ p (hk.perm hp) hs,trivial⟩
 | step n _ G1 p r hk hs h1 h2=>exact⟨_,.step n _ G1 p r (hk.perm hp) hs (h1.trans (Am9 _ (hp.erase p))) h2,Ef.refl r⟩
def R7 (c:Hf)(bd k:Nat)(G:List (List UInt8)):Prop:=∀r,(Dz c).Gk k G r->∃r',(Dz c).Gk bd [[]] r'/\Ef r r'
theorem R7.perm {c:Hf}{bd k:Nat}{G H:List (List UInt8)}(h:R7 c bd k G)(hp:H.Perm G):R7 c bd k H:=fun r hr=>by
 obtain⟨r1,h1,e1⟩:=hr.perm hp;obtain⟨r2,h2,e2⟩:=h r1 h1
 exact⟨r2,h2,e1.trans e2⟩
theorem Rx {c:Hf}{p:Ad}(h:Lz c p):(Dz c).Cd p.path.toList↔Fz p=true:=by
 unfold He.Cd Fz;rw[h.Aew,<-h.at_.deep];simp
theorem A68 {c:Hf}{p q:Ad}(hp:Lz c p)(hq:Lz c q)(h:E0 q p=false):q.path.toList=p.path.toList \/(Dz c).ahead p.path.toList q.path.toList:=by
 unfold He.ahead;rw[hp.Aew,hq.Aew];unfold E0 at h
 split at h
 ·rename_i e
  cases g:Op.bytesLess p.path.toList q.path.toList with
  | true=>exact .inr (.inr ⟨e.symm,rfl⟩)
  | false=>exact .inl (Zg h g)
 ·rename_i e
  have:¬p.opn<q.opn:=by simpa using h
  exact .inr (.inl (by omega))
structure RfS (c:Hf)(B:Nat)(w:World)(bd k:Nat)(H D:List Ad)(hv dv:Value)(W:World):Prop where
 I:M7 B w (w.heap.size+2) (w.heap.size+3) (w.heap.size+1) H D hv dv W
 ok:Jb E0 H.length H.toArray
 el:∀p,p∈H\/p∈D->Lz c p
 gh:∀p,p∈H->Fz p=true
 gd:∀p,p∈D->Fz p=false
 num:H.length+D.length+3*k=1+3*bd
 run:R7 c bd k (F6 (H++D))
 V4:Below w.heap.size w W
structure RfM (c:Hf)(B:Nat)(w:World)(bd k i:Nat)(ps:List UInt8)(H D:List Ad)(hv dv:Value)(W:World):Prop where
 I:M7 B w (w.heap.size+2) (w.heap.size+3) (w.heap.size+1) H D hv dv W
 ok:Jb E0 H.length H.toArray
 el:∀p,p∈H\/p∈D->Lz c p
 gh:∀p,p∈H->Fz p=true
 gd:∀p,p∈D->Fz p=false
 num:H.length+D.length+3*k+3=3*bd+i
 run:R7 c bd k (F6 (H++D) ++(kids ps).drop i)
 V4:Below w.heap.size w W
theorem RfM.step {c:Hf}{B:Nat}{w:World}{bd k i:Nat}{ps:List UInt8}{H D:List Ad}{hv dv:Value}{W W':World}(h:RfM c B w bd k i ps H D hv dv W)(b:Below W.heap.size W W'):RfM c B w bd k i ps H D hv dv W':=⟨h.I.step b,h.ok,h.el,h.gh,h.gd,h.num,h.run,h.V4.trans (b.mono h.V4.size)⟩
theorem RfM.done {c:Hf}{B:Nat}{w:World}{bd k:Nat}{ps:List UInt8}{H D:List Ad}{hv dv:Value}{W:World}(h:RfM c B w bd k 4 ps H D hv dv W):RfS c B w bd k H D hv dv W :=
 ⟨h.I,h.ok,h.el,h.gh,h.gd,by have:=h.num;omega,by have:=h.run;simpa [kids]using this,h.V4⟩
theorem M7.V4 {B:Nat}{w0:World}{rb db hb:Nat}{H D:List Ad}{hv dv:Value}{W W':World}(h:M7 B w0 rb db hb H D hv dv W)(hb':Below w0.heap.size w0 W)(k:Fx (rfS hb db hv dv) W W'):Below w0.heap.size w0 W':=hb'.trans (k.below _ hb'.size h.low)
theorem Jd.one {c:Hf}{B:Nat}{w:World}{rb db hb:Nat}{H D H' D':List Ad}{p:Ad}(h:(Fz p=true/\H'.Perm (H++[p])/\D'=D) \/(Fz p=false/\H'=H/\D'=D++[p]))(he:Lz c p)(hel:∀q,q∈H\/q∈D->Lz c q)(hg:∀q,q∈H->Fz q=true)(hd:∀q,q∈D->Fz q=false)(_:B=B)(_:w=w)(_:rb=rb)(_:db=db)(_:hb=hb) :
 (∀q,q∈H'\/q∈D'->Lz c q) /\(∀q,q∈H'->Fz q=true) /\(∀q,q∈D'->Fz q=false)/\H'.length+D'.length=H.length+D.length+1 /\(F6 (H'++D')).Perm (F6 (H++D)++[p.path.toList]):=by
 rcases h with⟨h1,h2,rfl⟩ |⟨h1,rfl,rfl⟩
 ·refine⟨fun q hq=>?_,fun q hq=>?_,hd,?_,?_⟩
  ·rcases hq with hq|hq
   ·rcases Ajd.1 (h2.mem_iff.1 hq)with hq|hq
    ·exact hel q (.inl hq)
    ·obtain rfl:q=p:=by simpa using hq
     exact he
   ·exact hel q (.inr hq)
  ·rcases Ajd.1 (h2.mem_iff.1 hq)with hq|hq
   ·exact hg q hq
   ·obtain rfl:q=p:=by simpa using hq
    exact h1
  ·rw[h2.length_eq];simp;omega
  ·have e:F6 (H++D')++[p.path.toList]=F6 (H++D'++[p]):=by simp[F6]
   rw[e]
   refine Lq ((h2.append_right D').trans ?_)
   rw[Al1,Al1]
   exact Am9 _ An3
 ·refine⟨fun q hq=>?_,hg,fun q hq=>?_,?_,?_⟩
  ·rcases hq with hq|hq
   ·exact hel q (.inl hq)
   ·rcases Ajd.1 hq with hq|hq
    ·exact hel q (.inr hq)
    ·obtain rfl:q=p:=by simpa using hq
     exact he
  ·rcases Ajd.1 hq with hq|hq
   ·exact hd q hq
   ·obtain rfl:q=p:=by simpa using hq
    exact h1
  ·simp;omega
  ·have e:F6 (H'++D)++[p.path.toList]=F6 (H' ++(D++[p])):=by simp[F6]
   rw[e]
theorem RfM.next {c:Hf}{B:Nat}{w:World}{bd k i:Nat}{ps:List UInt8}{H D:List Ad}{hv dv:Value}{W W':World}{p:Ad}(h:RfM c B w bd k i ps H D hv dv W)(hp:Jd B w (w.heap.size+2) (w.heap.size+3) (w.heap.size+1) H D hv dv p W W')(he:Lz c p)(hk:(kids ps).drop i=p.path.toList ::(kids ps).drop (i+1)) :
 ∃H' D' hv' dv',RfM c B w bd k (i+1) ps H' D' hv' dv' W'/\Fx (rfS (w.heap.size+1) (w.heap.size+3) hv dv) W W'/\Kb W hv hv'/\Kb W dv dv':=by
 obtain⟨H',D',hv',dv',I',ok',C',m1,m2,hx⟩:=hp;obtain⟨q1,q2,q3,q4,q5⟩:=Jd.one (B:=B) (w:=w) (rb:=0) (db:=0) (hb:=0) hx he h.el h.gh h.gd rfl rfl rfl rfl rfl
 refine⟨H',D',hv',dv',⟨I',ok',q1,q2,q3,by have:=h.num;omega,?_,h.I.V4 h.V4 C'⟩,C',m1,m2⟩
 refine h.run.perm ?_
 rw[hk]
 refine(q5.append_right _).trans ?_
 rw[Al1]
 exact Amp _
theorem RfS.first {c:Hf}{B:Nat}{w:World}{bd:Nat}{H D:List Ad}{hv dv:Value}{W W':World}{p:Ad}(I:M7 B w (w.heap.size+2) (w.heap.size+3) (w.heap.size+1) [] [] hv dv W)(hb:Below w.heap.size w W)(hp:Jd B w (w.heap.size+2) (w.heap.size+3) (w.heap.size+1) [] [] hv dv p W W')(he:Lz c p)(hk:p.path.toList=[])(_:H=H)(_:D=D) :
 ∃H' D' hv' dv',RfS c B w bd bd H' D' hv' dv' W':=by
 obtain⟨H',D',hv',dv',I',ok',C',m1,m2,hx⟩:=hp;obtain⟨q1,q2,q3,q4,q5⟩:=Jd.one (B:=B) (w:=w) (rb:=0) (db:=0) (hb:=0) hx he (fun q hq=>by rcases hq with hq|hq<;>cases hq) (fun q hq=>by cases hq) (fun q hq=>by cases hq) rfl rfl rfl rfl rfl
 refine⟨H',D',hv',dv',⟨I',ok',q1,q2,q3,by simp at q4;omega,?_,I.V4 hb C'⟩⟩
 have:R7 c bd bd [[]]:=fun r hr=>⟨r,hr,Ef.refl r⟩
 refine this.perm ?_
 rw[hk]at q5
 exact q5
theorem RfS.pick {c:Hf}{B:Nat}{w:World}{bd k:Nat}{H D L':List Ad}{hv dv:Value}{W:World}{p:Ad}(h:RfS c B w bd k H D hv dv W)(hp:(p :: L').Perm H)(hb:∀q,q∈H->E0 q p=false):(Dz c).Q9 (F6 (H++D)) p.path.toList /\((F6 (H++D)).erase p.path.toList).Perm (F6 (L'++D)):=by
 have hm:p∈H:=hp.mem_iff.1 (by simp)
 refine⟨⟨?_,(Rx (h.el p (.inl hm))).2 (h.gh p hm),fun q hq hg=>?_⟩,?_⟩
 ·exact Aj5.2 ⟨p,by simp[hm],rfl⟩
 ·obtain⟨x,hx,rfl⟩:=Aj5.1 hq
  rcases Ajd.1 hx with hx|hx
  ·exact A68 (h.el p (.inl hm)) (h.el x (.inl hx)) (hb x hx)
  ·have:=(Rx (h.el x (.inr hx))).1 hg;rw[h.gd x hx]at this
   cases this
 ·have h1:(F6 (H++D)).Perm (p.path.toList :: F6 (L'++D)):=(Lq ((hp.symm).append_right D)).trans (Amp _);have h2:=h1.erase p.path.toList
  rwa [List.erase_cons_head]at h2
end
section
open Go.RowKit Go.Sort Flo
theorem RfS.Aez {c:Hf}{B:Nat}{w:World}{bd k:Nat}{H D L':List Ad}{hv dv hv':Value}{W W':World}{p:Ad}(h:RfS c B w bd (k+1) H D hv dv W)(hp:(p :: L').Perm H)(hb:∀q,q∈H->E0 q p=false)(hok:Jb E0 L'.length L'.toArray)(hI:X6 w (w.heap.size+1) L' hv' W')(hc:Fx (hpS (w.heap.size+1) hv) W W')(hm:hv'.ownBlock=hv.ownBlock) :
 Lz c p/\C9 B p.t W'/\Below w.heap.size w W' /\(¬(Dz c).sp p.path.toList ->(Dz c).Gk bd [[]] none) /\((Dz c).sp p.path.toList->RfM c B w bd k 0 p.path.toList L' D hv' dv W'):=by
 have hm0:p∈H:=hp.mem_iff.1 (by simp)
 have hL:∀q,q∈L'->q∈H:=fun q hq=>hp.mem_iff.1 (by simp[hq])
 obtain⟨hpick,her⟩:=h.pick hp hb;obtain⟨I',C'⟩:=h.I.A9b hI hc (.inl hm) (fun q hq=>h.I.own q (.inl (hL q hq)))
 refine⟨h.el p (.inl hm0),h.I.A5y C' (h.I.own p (.inl hm0)),h.I.V4 h.V4 C',fun hs=>?_,fun hs=>⟨I',hok,fun q hq=>h.el q (hq.imp_left (hL q)),fun q hq=>h.gh q (hL q hq),h.gd,?_,fun r hr=>?_,h.I.V4 h.V4 C'⟩⟩
 ·obtain⟨r',h1,h2⟩:=h.run _ (.fail k _ _ hpick hs)
  cases r' with
  | none=>exact h1
  | some _=>exact h2.elim
 ·have:=h.num;have:=hp.length_eq;simp only[Al8]at this
  omega
 ·refine h.run r (.step k _ _ _ r hpick hs ?_ hr)
  rw[List.drop_zero]
  exact An3.trans (Am9 _ her.symm)
theorem RfS.ended {c:Hf}{B:Nat}{w:World}{bd k:Nat}{H D:List Ad}{hv dv:Value}{W:World}(h:RfS c B w bd k H D hv dv W)(hz:k=0\/H=[]):∃G,(Dz c).Gk bd [[]] (some G) /\(F6 (D++H)).Perm G:=by
 have h1:(Dz c).Gk k (F6 (H++D)) (some (F6 (H++D))):=by
  rcases hz with rfl|rfl
  ·exact .zero _
  ·refine .stop _ _ fun q hq hg=>?_
   obtain⟨x,hx,rfl⟩:=Aj5.1 hq;have hx:x∈D:=by simpa using hx
   have:=(Rx (h.el x (.inr hx))).1 hg;rw[h.gd x hx]at this
   cases this
 obtain⟨r',h2,h3⟩:=h.run _ h1
 cases r' with
 | none=>exact h3.elim
 | some G=>exact⟨G,h2,(Lq An3).trans h3⟩
theorem Vo (ps:List UInt8){i:Nat}(hi:i<4):(kids ps).drop i=(ps++[UInt8.ofNat (48+i)]) ::(kids ps).drop (i+1):=by
 rcases(by omega:i=0\/i=1\/i=2\/i=3)with rfl|rfl|rfl|rfl<;>rfl
structure RfQ (c:Hf)(B:Nat)(w:World)(bd k i:Nat)(p:Ad)(xb:Nat)(Bq:Nat)(L:List Ai)(g cap:Nat)(H D:List Ad)(hv dv:Value)(W:World):Prop where
 M:RfM c B w bd k i p.path.toList H D hv dv W
 x:A8 w xb (Ag p).toArray 52 W
 xw:w.heap.size<=xb
 ax:¬rfS (w.heap.size+1) (w.heap.size+3) hv dv xb
 q:C3 Bq L (.slice (some ⟨g,0,none⟩) L.length cap) W
theorem RfQ.step {c:Hf}{B:Nat}{w:World}{bd k i:Nat}{p:Ad}{xb Bq:Nat}{L:List Ai}{g cap:Nat}{H D:List Ad}{hv dv:Value}{W W':World}(h:RfQ c B w bd k i p xb Bq L g cap H D hv dv W)(b:Below W.heap.size W W'):RfQ c B w bd k i p xb Bq L g cap H D hv dv W' :=
 ⟨h.M.step b,h.x.step b,h.xw,h.ax,h.q.step b⟩
theorem RfQ.next {c:Hf}{B:Nat}{w:World}{bd k i:Nat}{p:Ad}{xb Bq:Nat}{L:List Ai}{g cap:Nat}{H D:List Ad}{hv dv:Value}{W W':World}{u:Ai}{path:ByteArray}(h:RfQ c B w bd k i p xb Bq L g cap H D hv dv W)(hi:i<4)
 (hp:Jd B w (w.heap.size+2) (w.heap.size+3) (w.heap.size+1) H D hv dv ⟨u,path,(cnt 0 u.ys:Nat)⟩ W W') (he:L7 c (p.path.toList++[UInt8.ofNat (48+i)]) u) (hpath:path.toList=p.path.toList++[UInt8.ofNat (48+i)]) :
 ∃H' D' hv' dv',RfQ c B w bd k (i+1) p xb Bq L g cap H' D' hv' dv' W':=by
 obtain⟨H',D',hv',dv',hM,hC,m1,m2⟩:=h.M.next hp (⟨by rw[hpath];exact he,rfl⟩:Lz c ⟨u,path,(cnt 0 u.ys:Nat)⟩) (by rw[Vo _ hi];exact congrArg (· :: _) hpath.symm)
 have hlt:=h.x.lt
 refine⟨H',D',hv',dv',hM,hC.box h.x h.ax h.M.I.low,h.xw,?_,⟨hC.owns h.q.row fun b hb hs=>?_,fun t ht=>h.M.I.A5y hC (h.q.own t ht)⟩⟩
 ·rintro(e|e|e|e)
  ·exact h.ax (.inl e)
  ·exact h.ax (.inr (.inl e))
  ·rcases m1 with m |⟨g,m,hg⟩
   ·exact h.ax (.inr (.inr (.inl (m▸e))))
   ·rw[m]at e;injection e with e
    omega
  ·rcases m2 with m |⟨g,m,hg⟩
   ·exact h.ax (.inr (.inr (.inr (m▸e))))
   ·rw[m]at e;injection e with e
    omega
 ·obtain⟨_,C,hc⟩:=Cn h.q.row hb
  exact h.M.I.aside hc (by decide) hs
theorem RfQ.first {c:Hf}{B:Nat}{w:World}{bd k:Nat}{p:Ad}{L:List Ai}{g cap:Nat}{H D:List Ad}{hv dv:Value}{W W':World}(h:RfM c B w bd k 0 p.path.toList H D hv dv W){C:Array Value}(hC:C=(Ag p).toArray)(b:Below (W.heap.size+1) (W.alloc (.cells C 52)) W')(hq:C3 (W.heap.size+1) L (.slice (some ⟨g,0,none⟩) L.length cap) W') :
 RfQ c B w bd k 0 p W.heap.size (W.heap.size+1) L g cap H D hv dv W':=by
 subst hC;have b':Below (W.alloc (.cells (Ag p).toArray 52)).heap.size (W.alloc (.cells (Ag p).toArray 52)) W':=by rw[Aim];exact b
 have X:=((A8.new W (Ag p).toArray 52).up h.V4).step b'
 refine⟨h.step (((Aik _ _).alloc (Ai3 _) _).trans (b'.mono (by simp))),X,h.V4.size,fun hs=>?_,hq⟩
 have:=h.I.lt hs
 omega
end
section
open Go.RowKit Go.Sort Flo
def Rb (c:Hf)(B bd:Nat)(w:World)(e:Ending)(w':World):Prop :=
 Below w.heap.size w w' /\((e=.returned (.tuple #[.slice none 0 0,.bool false]) /\(Dz c).Gk bd [[]] none) \/
  ∃(g cap n:Nat) (L:List Ad) (G:List (List UInt8)),e=.returned (.tuple #[.slice (some ⟨g,0,none⟩) n cap,.bool true])/\L.length=n/\n<=1+3*bd/\0<n/\w'.ownsRow w.heap.size 52 7 (.slice (some ⟨g,0,none⟩) n cap) n (Ao L) /\
   (∀p,p∈L->Lz c p/\C9 B p.t w') /\(F6 L).Pairwise (fun a b=>Op.bytesLess b a=false) /\(Dz c).Gk bd [[]] (some G) /\(F6 L).Perm G)
theorem J3 {W:World}{B B' n size:Nat}{e:TypeId}{v:Value}{xs:List Value}(h:W.ownsRow B e size v n xs)(hB:B'<=B):W.ownsRow B' e size v n xs:=by
 refine⟨h.1,?_⟩
 rcases h.2 with hl |⟨g,cap,cur,rfl,h2,h3⟩
 ·exact .inl hl
 ·exact .inr ⟨g,cap,cur,rfl,by omega,h3⟩
theorem A5j {c:Hf}{B:Nat}{w:World}{bd k:Nat}{H D L':List Ad}{hv dv:Value}{W W3 W4:World}{g cap n:Nat}(h:RfS c B w bd k H D hv dv W)(hz:k=0\/H=[])(hk:k<=bd)(b:Below W.heap.size W W3)(hn:D.length+H.length=n)
 (ho:W3.ownsRow W.heap.size 52 7 (.slice (some ⟨g,0,none⟩) n cap) n (Ao (D++H))) (hp:L'.Perm (D++H)) (hl:L'.length=n) (hs:∀i j,i<j->j<n->Op.bytesLess (L'.toArray[j]!).path.toList (L'.toArray[i]!).path.toList=false)
 (ho4:W4.ownsRow W.heap.size 52 7 (.slice (some ⟨g,0,none⟩) n cap) n (Ao L')) (hO:By g W3 W4):Rb c B bd w (.returned (.tuple #[.slice (some ⟨g,0,none⟩) n cap,.bool true])) W4:=by
 obtain⟨G,hG,hGp⟩:=h.ended hz;obtain⟨hg,C,hc⟩:=Cn ho (k:=g) rfl;have hC:Fx (fun k=>k=g) W3 W4:=Fx.A5b hO rfl
 have hnum:=h.num
 refine⟨(h.V4.trans (b.mono h.V4.size)).trans (hC.below _ (Ai5 h.V4.size b.size) fun k hk=>hk▸Ai5 h.V4.size hg),.inr ⟨g,cap,n,L',G,rfl,hl,by omega,by omega,J3 ho4 h.V4.size,fun p hpp=>?_,?_,hG,?_⟩⟩
 ·have hm:p∈H\/p∈D:=by
   rcases Ajd.1 (hp.mem_iff.1 hpp)with h|h
   ·exact .inr h
   ·exact .inl h
  refine⟨h.el p hm,((h.I.own p hm).step b).chg hC fun b' C' T hb hT hbg=>?_⟩
  subst hbg;rw[hb]at hc;injection hc with hc
  injection hc with _ hc
  subst hc
  rcases hT with h|h<;>exact absurd h (by decide)
 ·unfold F6;rw[List.pairwise_map,List.pairwise_iff_getElem];intro i j hi hj hij;have:=hs i j hij (by omega)
  rwa [Aks L'.toArray j (by simpa using hj),Aks L'.toArray i (by simpa using hi),List.getElem_toArray,List.getElem_toArray]at this
 ·exact(Lq hp).trans hGp
end
section
open Go.RowKit Go.Sort Flo
attribute [local go_sem ↓] Go.wp_at_zero Go.wp_at_succ
attribute [local go_sem] A7 A5
theorem Ac8 (hb n c:Nat)(a:Option Addr)(w:World)(c0:w.cell? ⟨hb,0,none⟩=some (.slice a n c)):Calls Vp.prog 38 #[.pointer (some ⟨hb,0,none⟩)] w fun e w'=>e=.returned (.int .i64 n)/\w'=w:=by
 go_enter Vp.func38,Tryz.ntmps38
 go_wp2
 go_ret
 exact⟨rfl,rfl⟩
theorem A7a (c:Hf)(B bd:Nat)(t:Ai)(hbd:bd<=30)(w:World)(hB:B<=w.heap.size)(ho:C9 B t w)(he:L7 c [] t) :
 Calls Vp.prog 16 #[.agg t.cells.toArray,.int .i64 c.A4,.int .i64 bd] w (Rb c B bd w):=by
 have e1:t.cells.toArray=#[.complex .f32 t.cx t.cy,.int .i64 t.deep,.int .i64 t.size,.slice (some ⟨t.gs,0,none⟩) t.n t.cs,.slice (some ⟨t.gm,0,none⟩) t.n t.cm]:=rfl;rw[e1];obtain⟨hI,hF⟩:=Aab B w (.complex .f32 t.cx t.cy) (.int .i64 t.deep) (.int .i64 t.size) (.slice (some ⟨t.gs,0,none⟩) t.n t.cs) (.slice (some ⟨t.gm,0,none⟩) t.n t.cm);have HB0:=Ai1 hB;have HI:=Ai1 hI;have HF:=Ai1 hF;have HT:=Ai1 (ho.step hF.old);have HE:=Ai1 he;clear hI hF ho he hB
 go_enter Vp.func16,Tryz.ntmps16
 go_upto_region 4 with fail
 simp only[rfW]at HI HF HT;generalize (((w.alloc (.cells #[.complex .f32 t.cx t.cy,.int .i64 t.deep,.int .i64 t.size,.slice (some ⟨t.gs,0,none⟩) t.n t.cs,.slice (some ⟨t.gm,0,none⟩) t.n t.cm] 35)).alloc (.cells #[.slice none 0 0,.func (.func 34) #[] #[]] 82)).alloc (.cells #[.pointer (some ⟨w.heap.size+1,0,none⟩)] 79)).alloc (.cells #[.slice none 0 0] 48)=w1 at *;obtain⟨x0,x1,x2,x3,x4⟩:=HF.out.Aa;have CA:=Ai1 (Uz t ⟨#[]⟩ B w1 HT.out);rw[e1]at CA;have hq:w.heap.size+1+1=w.heap.size+2:=rfl;have hq2:w.heap.size+1+1+1=w.heap.size+3:=rfl;rw[hq2,hq]
 go_wp2_with fail
 refine CA.out.mono ?_
 rintro e w2 ⟨rfl,hb2⟩;obtain⟨p0,hp0⟩:∃p0:Ad,p0=⟨t,⟨#[]⟩,(cnt 0 t.ys:Nat)⟩:=⟨_,rfl⟩;rw[<-hp0]
 have HE0:Hid (Lz c p0/\p0.path.toList=[]/\C9 B p0.t w2):=by
  have hnil:(⟨#[]⟩:ByteArray).toList=[]:=by rw[toList_data]
  subst hp0
  refine⟨⟨?_,rfl⟩,hnil,HT.out.step hb2⟩
  show L7 c (⟨#[]⟩:ByteArray).toList t
  rw[hnil]
  exact HE.out
 have HI2:=Ai1 (HI.out.step hb2);have HB2:=Ai1 (HF.out.step hb2).old;have CP:=Ai1 (A19 B w (w.heap.size+2) (w.heap.size+3) (w.heap.size+1) [] [] (.slice none 0 0) (.slice none 0 0) p0 (by simp) (by simp) (fun k _ h=>by simp at h) w2 HI2.out HE0.out.2.2)
 clear CA hb2 HI HF HT HE x0 x1 x2 x3 x4 hp0;generalize (Ag p0).toArray=cp at *
 go_wp2_with fail
 refine CP.out.mono ?_
 rintro e w3 ⟨rfl,hpl⟩;have hx:∃H' D' hv' dv',Hid (RfS c B w bd bd H' D' hv' dv' w3):=RfS.first (H:=[]) (D:=[]) HI2.out HB2.out hpl HE0.out.1 HE0.out.2.1 rfl rfl;clear CP HI2 HB2 HE0 hpl e1;obtain⟨H0,D0,hv0,dv0,HS0⟩:=hx;generalize hrb:w.heap.size+2=rb at *;generalize hdb:w.heap.size+3=db at *;generalize hhb:w.heap.size+1=hb at *
 go_wp2
 go_loopw [2] (fun kv wr=>∃(k:Nat) (H D:List Ad) (hv dv:Value),k<=bd/\kv=.int .i64 k/\Hid (RfS c B w bd k H D hv dv wr)) (fun kv _=>(intOf kv).toNat)
 case atStart=>exact⟨bd,H0,D0,hv0,dv0,Ai3 _,rfl,HS0.out⟩
 case round =>
  clear HS0;obtain⟨k,H,D,hv,dv,hk,rfl,HS⟩:=hrel;have hnum:=HS.out.num
  rcases Ajr k with rfl|hk0
  ·obtain⟨wo,rfl⟩:∃wo,wo=wr:=⟨_,rfl⟩;have c0:wo.cell? ⟨db,0,none⟩=some dv:=by have:=HS.out.I.On.cell 0 _ rfl;rwa [hdb]at this
   have c1:wo.cell? ⟨rb,0,none⟩=some (.pointer (some ⟨hb,0,none⟩)):=by have:=HS.out.I.A1g.cell 0 _ rfl;rwa [hrb,hhb]at this
   have c2:wo.cell? ⟨hb,0,none⟩=some hv:=by have:=HS.out.I.heap.box.cell 0 _ rfl;rwa [hhb]at this
   have f0:¬((0:Int)<0):=by omega
   go_upto_region 16 with fail
   obtain⟨a1,a2,hdv⟩:=G8 HS.out.I.Oo;obtain⟨m1,m2,hhv⟩:=G8 HS.out.I.heap.row;obtain⟨n,hn⟩:∃n,D.length+H.length=n:=⟨_,rfl⟩;rw[hdv]at c0;rw[hhv]at c2;have hn0:0<n:=by omega
   have HCC:Hid (Calls Vp.prog 40 #[.slice (some ⟨wo.heap.size,0,none⟩) 2 2] ((wo.alloc (.cells #[.slice a1 D.length a2,.slice m1 H.length m2] 48)).drew) (fun e w'=>∃g cap,e=.returned (.slice (some ⟨g,0,none⟩) n cap)/\Hid (w'.ownsRow wo.heap.size 52 7 (.slice (some ⟨g,0,none⟩) n cap) n (Ao (D++H)))/\Hid (Below wo.heap.size wo w')/\w'.cell? ⟨db,0,none⟩=some (.slice a1 D.length a2)/\w'.cell? ⟨rb,0,none⟩=some (.pointer (some ⟨hb,0,none⟩))/\w'.cell? ⟨hb,0,none⟩=some (.slice m1 H.length m2))):=by
    have X:=(A8.new wo #[.slice a1 D.length a2,.slice m1 H.length m2] 48).step ((Aq.refl _).drew.below _);have h:=V9 wo.heap.size 2 D H (.slice a1 D.length a2) (.slice m1 H.length m2) (by omega) (by omega) _ (X.cell 0 _ rfl) (X.cell 1 _ rfl) w.heap.size (by have:=HS.out.I.Oo;rw[hdv]at this;exact Ab this X.old) (by have:=HS.out.I.heap.row;rw[hhv]at this;exact Ab this X.old)
    refine h.mono ?_
    rintro e w' ⟨v,rfl,ho,hb'⟩;rw[hn]at ho;obtain⟨g,cap,rfl,-,-⟩:=ownsRow_form ho hn0;have hb2:Below wo.heap.size wo w':=X.old.trans (hb'.mono X.old.size)
    exact⟨g,cap,rfl,J3 ho X.old.size,hb2,(hb2.cell (Aix wo _ c0)).trans c0,(hb2.cell (Aix wo _ c1)).trans c1,(hb2.cell (Aix wo _ c2)).trans c2⟩
   have HEND:Hid (∀w3 g cap,Below wo.heap.size wo w3->w3.ownsRow wo.heap.size 52 7 (.slice (some ⟨g,0,none⟩) n cap) n (Ao (D++H))->Calls Vp.prog 41 #[.slice (some ⟨g,0,none⟩) n cap,.func (.func 42) #[] #[]] w3 fun e w'=>e=.returned (.tuple #[])/\Hid (Rb c B bd w (.returned (.tuple #[.slice (some ⟨g,0,none⟩) n cap,.bool true])) w')):=fun w3 g cap hb' ho=>by
    refine(A5p wo.heap.size g cap n (D++H) (by rw[Aje];exact hn) (by omega) w3 ho).mono ?_
    rintro e w' ⟨rfl,L',hp,hl,hs,ho4,hO⟩
    exact⟨rfl,A5j HS.out (.inl rfl) (by omega) hb' hn ho hp hl hs ho4 hO⟩
   generalize D.length=nd at *;generalize H.length=nh at *;clear hdv hhv HS hnum hn hn0
   go_region_held3 (fun w'=>w'.cell? ⟨db,0,none⟩=some (.slice a1 nd a2)/\w'.cell? ⟨rb,0,none⟩=some (.pointer (some ⟨hb,0,none⟩))/\w'.cell? ⟨hb,0,none⟩=some (.slice m1 nh m2)) (go_keep) (first
    |(go_at_call 40;(with_reducible refine HCC.out.mono ?_);rintro e w' ⟨g,cap,rfl,ho,hb',s1,s2,s3⟩))
   go_wp2_with fail
   refine(HEND.out _ _ _ hb'.out ho.out).mono ?_
   rintro e w8 ⟨rfl,hr⟩;clear HCC HEND ho hb' s1 s2 s3 c0 c1 c2
   go_wp2
   exact Ai6 (v:=.tuple #[.slice (some ⟨g,0,none⟩) n cap,.bool true]) (by simp[results,Tryz.f16,go_sem]) rfl hr.out
  ·obtain⟨k1,rfl⟩:∃k1,k=k1+1:=⟨k-1,by omega⟩
   have r0:wr.cell? ⟨rb,0,none⟩=some (.pointer (some ⟨hb,0,none⟩)):=by
    have:=HS.out.I.A1g.cell 0 _ rfl;rw[hrb,hhb]at this
    exact this
   have f0:decide ((0:Int) <((k1+1:Nat):Int))=true:=Aip (by omega)
   obtain⟨la,lc,hlv⟩:=G8 HS.out.I.heap.row
   have CL:=Ai1 (Ac8 hb H.length lc la wr (by
    have:=HS.out.I.heap.box.cell 0 _ rfl;rw[hhb]at this
    exact this.trans (congrArg some hlv)))
   rcases Ajr H.length with hz|hz
   ·have hH:H=[]:=List.length_eq_zero_iff.1 hz;obtain⟨wo,rfl⟩:∃wo,wo=wr:=⟨_,rfl⟩;have c0:wo.cell? ⟨db,0,none⟩=some dv:=by have:=HS.out.I.On.cell 0 _ rfl;rwa [hdb]at this
    have c1:wo.cell? ⟨rb,0,none⟩=some (.pointer (some ⟨hb,0,none⟩)):=r0;have c2:wo.cell? ⟨hb,0,none⟩=some hv:=by have:=HS.out.I.heap.box.cell 0 _ rfl;rwa [hhb]at this
    clear r0 hlv;have f1:decide ((0:Int) <(H.length:Int))=false:=Aj0 (by omega)
    go_wp2_with fail
    refine CL.out.mono ?_
    rintro e w4 ⟨rfl,hw4⟩;replace hw4:=hw4.symm;subst hw4;clear CL
    go_upto_region 16 with fail
    obtain⟨a1,a2,hdv⟩:=G8 HS.out.I.Oo;obtain⟨m1,m2,hhv⟩:=G8 HS.out.I.heap.row;obtain⟨n,hn⟩:∃n,D.length+H.length=n:=⟨_,rfl⟩;rw[hdv]at c0;rw[hhv]at c2;have hn0:0<n:=by omega
    have HCC:Hid (Calls Vp.prog 40 #[.slice (some ⟨wo.heap.size,0,none⟩) 2 2] ((wo.alloc (.cells #[.slice a1 D.length a2,.slice m1 H.length m2] 48)).drew) (fun e w'=>∃g cap,e=.returned (.slice (some ⟨g,0,none⟩) n cap)/\Hid (w'.ownsRow wo.heap.size 52 7 (.slice (some ⟨g,0,none⟩) n cap) n (Ao (D++H)))/\Hid (Below wo.heap.size wo w')/\w'.cell? ⟨db,0,none⟩=some (.slice a1 D.length a2)/\w'.cell? ⟨rb,0,none⟩=some (.pointer (some ⟨hb,0,none⟩))/\w'.cell? ⟨hb,0,none⟩=some (.slice m1 H.length m2))):=by
     have X:=(A8.new wo #[.slice a1 D.length a2,.slice m1 H.length m2] 48).step ((Aq.refl _).drew.below _);have h:=V9 wo.heap.size 2 D H (.slice a1 D.length a2) (.slice m1 H.length m2) (by omega) (by omega) _ (X.cell 0 _ rfl) (X.cell 1 _ rfl) w.heap.size (by have:=HS.out.I.Oo;rw[hdv]at this;exact Ab this X.old) (by have:=HS.out.I.heap.row;rw[hhv]at this;exact Ab this X.old)
     refine h.mono ?_
     rintro e w' ⟨v,rfl,ho,hb'⟩;rw[hn]at ho;obtain⟨g,cap,rfl,-,-⟩:=ownsRow_form ho hn0;have hb2:Below wo.heap.size wo w':=X.old.trans (hb'.mono X.old.size)
     exact⟨g,cap,rfl,J3 ho X.old.size,hb2,(hb2.cell (Aix wo _ c0)).trans c0,(hb2.cell (Aix wo _ c1)).trans c1,(hb2.cell (Aix wo _ c2)).trans c2⟩
    have HEND:Hid (∀w3 g cap,Below wo.heap.size wo w3->w3.ownsRow wo.heap.size 52 7 (.slice (some ⟨g,0,none⟩) n cap) n (Ao (D++H))->Calls Vp.prog 41 #[.slice (some ⟨g,0,none⟩) n cap,.func (.func 42) #[] #[]] w3 fun e w'=>e=.returned (.tuple #[])/\Hid (Rb c B bd w (.returned (.tuple #[.slice (some ⟨g,0,none⟩) n cap,.bool true])) w')):=fun w3 g cap hb' ho=>by
     refine(A5p wo.heap.size g cap n (D++H) (by rw[Aje];exact hn) (by omega) w3 ho).mono ?_
     rintro e w' ⟨rfl,L',hp,hl,hs,ho4,hO⟩
     exact⟨rfl,A5j HS.out (.inr hH) (by omega) hb' hn ho hp hl hs ho4 hO⟩
    generalize D.length=nd at *;generalize H.length=nh at *;clear hdv hhv HS hnum hn hn0 hz hH f1
    go_region_held3 (fun w'=>w'.cell? ⟨db,0,none⟩=some (.slice a1 nd a2)/\w'.cell? ⟨rb,0,none⟩=some (.pointer (some ⟨hb,0,none⟩))/\w'.cell? ⟨hb,0,none⟩=some (.slice m1 nh m2)) (go_keep) (first
     |(go_at_call 40;(with_reducible refine HCC.out.mono ?_);rintro e w' ⟨g,cap,rfl,ho,hb',s1,s2,s3⟩))
    go_wp2_with fail
    refine(HEND.out _ _ _ hb'.out ho.out).mono ?_
    rintro e w8 ⟨rfl,hr⟩;clear HCC HEND ho hb' s1 s2 s3 c0 c1 c2
    go_wp2
    exact Ai6 (v:=.tuple #[.slice (some ⟨g,0,none⟩) n cap,.bool true]) (by simp[results,Tryz.f16,go_sem]) rfl hr.out
   ·obtain⟨m,hm⟩:∃m,H.length=m+1:=⟨H.length-1,by omega⟩
    have f1:decide ((0:Int) <(H.length:Int))=true:=Aip (by omega)
    have CP:=Ai1 (A31 w hb m H hv hm (by omega) HS.out.ok wr (by have:=HS.out.I.heap;rwa [hhb]at this))
    have wr1:IntKind.i64.wrap (((k1+1:Nat):Int)-1)=(k1:Int):=by
     rw[show((k1+1:Nat):Int)-1=(k1:Int) by omega]
     exact Ajh _ (by omega)
    have ta:=fun(v:Value) (w:World)=>Rg (P:=Vp.prog) (x:=20) (Vp.Di Tryz.underlying52) v w
    clear hlv
    go_wp2_with fail
    refine CL.out.mono ?_
    rintro e w4 ⟨rfl,rfl⟩;clear CL hz
    go_wp2_with fail
    refine CP.out.mono ?_
    rintro e w5 ⟨p,L',hv',rfl,hperm,hbest,hok',hI',hc',hm'⟩;obtain⟨hel,hown,hbel,hno,hyes⟩:=HS.out.Aez hperm hbest hok' (by rw[hhb];exact hI') (by rw[hhb];exact hc') hm'
    have e2:(Ag p).toArray=#[.complex .f32 p.t.cx p.t.cy,.int .i64 p.t.deep,.int .i64 p.t.size,.slice (some ⟨p.t.gs,0,none⟩) p.t.n p.t.cs,.slice (some ⟨p.t.gm,0,none⟩) p.t.n p.t.cm,.string p.path,.int .i64 p.opn]:=rfl;have HEL:=Ai1 hel;have HOWN:=Ai1 hown;have HNO:=Ai1 hno;have HBEL:=Ai1 hbel;have HYES:=Ai1 hyes;have X:=A8.new w5 (Ag p).toArray 52;have HX:=Ai1 X;rw[e2]at X ⊢;obtain⟨x0,x1,x2,x3,x4,x5,x6⟩:=X.Cv;obtain⟨dp,hdp,hsp⟩:=S5 c.A4 p.t B (w5.alloc (.cells #[.complex .f32 p.t.cx p.t.cy,.int .i64 p.t.deep,.int .i64 p.t.size,.slice (some ⟨p.t.gs,0,none⟩) p.t.n p.t.cs,.slice (some ⟨p.t.gm,0,none⟩) p.t.n p.t.cm,.string p.path,.int .i64 p.opn] 52)) (HOWN.out.step X.old) HEL.out.at_.Cd;have HSP:Hid (Calls Vp.prog 26 #[.agg #[.complex .f32 p.t.cx p.t.cy,.int .i64 p.t.deep,.int .i64 p.t.size,.slice (some ⟨p.t.gs,0,none⟩) p.t.n p.t.cs,.slice (some ⟨p.t.gm,0,none⟩) p.t.n p.t.cm],.int .i64 c.A4] _ (Jf _ p.t.cx p.t.cy dp p.t.size c.A4)):=hsp;have HDP:=Ai1 hdp;clear hel hown hbel hno hyes X hsp hdp hperm hbest hok' hI' hc' hm' CP HS hnum r0 f0 f1
    go_wp2_with fail
    refine HSP.out.mono ?_
    rintro e w6 ⟨⟨a0,c0,rfl,k',hk',hnp⟩ |⟨L,v,rfl,hL,hLl,hLt⟩,hb6⟩
    ·have HR:Hid (Rb c B bd w (.returned (.tuple #[.slice none 0 0,.bool false])) w6):=by
      refine⟨HBEL.out.trans (((HX.out.old.mono HBEL.out.size)).trans ?_),.inl ⟨rfl,HNO.out fun hs=>hnp ?_⟩⟩
      ·have h:=hb6.mono (B':=w.heap.size) (by rw[Aim];exact Nat.le_succ_of_le HBEL.out.size)
       rw[e2]
       exact h
      ·have:=(HEL.out.at_.sp HDP.out).1 hs k' hk'
       rwa [<-HEL.out.at_.size]at this
     clear hnp hb6 HSP x0 x1 x2 x3 x4 x5 x6 HX e2
     go_wp2
     exact Ai6 (v:=.tuple #[.slice none 0 0,.bool false]) (by simp[results,Tryz.f16,go_sem]) rfl HR.out
    ·have hform:=ownsRow_form hL.row (by omega)
     obtain⟨g,cap,rfl,-,hcap⟩:=hform;have hszz:p.t.size=c.s:=HEL.out.at_.size;rw[hszz]at hLt
     have HSPL:Hid (Gl p.t.cx p.t.cy dp c.s):=fun j hj=>by
      obtain⟨u,hu⟩:∃u,L[j]?=some u:=⟨_,Aig (by omega)⟩
      obtain⟨q1,q2,q3,q4,q5⟩:=hLt j u hu;obtain⟨a1,a2,a3,a4,b1,b2,b3,-,-⟩:=q5;have hm:Uu u.cx u.cy u.deep u.size:=⟨a1,a2,a3,a4,b1,b2,b3⟩;rw[q1,q2,q3,q4]at hm
      exact hm
     have HQ:Hid (RfQ c B w bd k1 0 p w5.heap.size (w5.heap.size+1) L g cap L' D hv' dv w6):=RfQ.first (HYES.out ((HEL.out.at_.sp HDP.out).2 HSPL.out)) e2.symm (by rwa [Aim]at hb6) (by rwa [Aim]at hL)
     have HKID:Hid (∀j u,L[j]?=some u->j<4->L7 c (p.path.toList++[UInt8.ofNat (48+j)]) u):=fun j u hu hj=>by
      obtain⟨q1,q2,q3,q4,q5⟩:=hLt j u hu
      exact HEL.out.at_.kid HDP.out HSPL.out hj q1 q2 q3 q4 q5
     have HLN:=Ai1 hLl;have HB5:Hid (w.heap.size<=w5.heap.size):=HBEL.out.size
     have HPZ:Hid (p.path.size<=10):=by
      have h1:=(Bj HOWN.out.pl).2.1;have h2:=HEL.out.at_.deep;have h3:p.path.toList.length=p.path.size:=by rw[toList_data];exact Ajn
      have h4:(Dz c).deep p.path.toList=(c.d0:Int)+p.path.toList.length:=rfl
      exact(show p.path.size<=10 by omega)
     rw[hLl]at hcap ⊢;clear hL hLl hLt hb6 hszz HSP x0 x1 x2 x3 x4 x5 x6 HX HYES HNO HBEL HOWN HSPL HDP e2;generalize w5.heap.size=xb at *
     go_wp2
     go_loopw [48] (fun iv wr=>∃(i:Nat) (H D:List Ad) (hv dv:Value),i<=4/\iv=.int .i64 i/\Hid (RfQ c B w bd k1 i p xb (xb+1) L g cap H D hv dv wr)) (fun iv _=>(4-intOf iv).toNat)
     case atStart=>exact⟨0,L',D,hv',dv,by omega,rfl,HQ⟩
     case round =>
      clear HQ;obtain⟨i,H1,D1,hv1,dv1,hi,rfl,HQ⟩:=hrel;obtain⟨wo,rfl⟩:∃wo,wo=wr:=⟨_,rfl⟩
      by_cases hlt:i<4
      ·obtain⟨u,hu⟩:∃u,L[i]?=some u:=⟨_,Aig (by have:=HLN.out;omega)⟩
       have HKU:Hid (L7 c (p.path.toList++[UInt8.ofNat (48+i)]) u):=HKID.out i u hu hlt;obtain⟨y0,y1,y2,y3,y4⟩:=HQ.out.q.cells hu;have HU:=Ai1 (HQ.out.q.own u (Aiu hu));have HXP:=Ai1 (HQ.out.x.cell 5 (.string p.path) rfl);clear hu;obtain⟨cb,hcb⟩:∃cb:UInt8,cb=UInt8.ofNat (48+i):=⟨_,rfl⟩
       have se:(⟨#[48,49,50,51]⟩:ByteArray).extract i (i+1)=⟨#[cb]⟩:=by
        rw[hcb]
        rcases(by omega:i=0\/i=1\/i=2\/i=3)with rfl|rfl|rfl|rfl<;>rfl
       have b5:(i:Int)<4:=by omega
       have b6:(0:Int)<=i:=by omega
       have sl:∀W:World,Sem.run Vp.prog (Instr.slice 9 (.string ⟨#[48,49,50,51]⟩) (some (.int .i64 (i:Int))) (some (.int .i64 ((i:Int)+1))) none) W=.ok (.string ⟨#[cb]⟩) W:=fun W=>by
        rw[run_slice_string_if (P:=Vp.prog) (w:=W) 9 ⟨#[48,49,50,51]⟩ .i64 .i64 (i:Int) ((i:Int)+1) (Vp.Di Tryz.underlying9),Aij ⟨by omega,by show(i:Int)+1<=4;omega⟩,Aij ⟨by omega,by omega⟩,show((i:Int)+1).toNat=i+1 by omega,Ajk,se]
       have wq:IntKind.i64.wrap ((i:Int)+1)=(i:Int)+1:=Ajh _ (by omega)
       obtain⟨path,hpath⟩:∃path,p.path ++(⟨#[cb]⟩:ByteArray)=path:=⟨_,rfl⟩;have A0:=fun W:World=>Amx (P:=Vp.prog) W p.path ⟨#[cb]⟩ (by have:=HPZ.out;show p.path.size+1<=_;omega)
       have hpt:path.toList=p.path.toList++[UInt8.ofNat (48+i)]:=by
        rw[<-hpath,toList_data,toList_data,ByteArray.data_append];rw[<-hcb];simp
       have HPT:=Ai1 hpt;rw[hpath]at A0;clear hpt;clear hpath hcb se
       go_upto_region 14 with fail
       have X15:=A8.new wo #[.complex .f32 u.cx u.cy,.int .i64 u.deep,.int .i64 u.size,.slice (some ⟨u.gs,0,none⟩) u.n u.cs,.slice (some ⟨u.gm,0,none⟩) u.n u.cm] 35;have HW0:=Ai1 (And.intro (HQ.out.step X15.old) (And.intro X15 (HU.out.step X15.old)));generalize wo.alloc (.cells #[.complex .f32 u.cx u.cy,.int .i64 u.deep,.int .i64 u.size,.slice (some ⟨u.gs,0,none⟩) u.n u.cs,.slice (some ⟨u.gm,0,none⟩) u.n u.cm] 35)=W at *
       have HKK:Hid (∀W',Below W.drew.heap.size W.drew W'->RfQ c B w bd k1 i p xb (xb+1) L g cap H1 D1 hv1 dv1 W'/\A8 wo wo.heap.size #[.complex .f32 u.cx u.cy,.int .i64 u.deep,.int .i64 u.size,.slice (some ⟨u.gs,0,none⟩) u.n u.cs,.slice (some ⟨u.gm,0,none⟩) u.n u.cm] 35 W'/\C9 (xb+1) u W'):=fun W' h=>by
        have h2:Below W.heap.size W W':=((Aq.refl W).drew.below _).trans h
        exact⟨HW0.out.1.step h2,HW0.out.2.1.step h2,HW0.out.2.2.step h2⟩
       have HSS:Hid (∀W',Below W.drew.heap.size W.drew W'->W'.cell? ⟨wo.heap.size,0,none⟩=some (.complex .f32 u.cx u.cy)/\W'.cell? ⟨wo.heap.size,1,none⟩=some (.int .i64 u.deep)/\W'.cell? ⟨wo.heap.size,2,none⟩=some (.int .i64 u.size)/\W'.cell? ⟨wo.heap.size,3,none⟩=some (.slice (some ⟨u.gs,0,none⟩) u.n u.cs)/\W'.cell? ⟨wo.heap.size,4,none⟩=some (.slice (some ⟨u.gm,0,none⟩) u.n u.cm)/\W'.cell? ⟨xb,5,none⟩=some (.string p.path)):=fun W' h=>by
        obtain⟨k1,k2,k3⟩:=HKK.out W' h;obtain⟨z0,z1,z2,z3,z4⟩:=k2.Aa
        exact⟨z0,z1,z2,z3,z4,k1.x.cell 5 _ rfl⟩
       have HCA:Hid (∀W',Below W.drew.heap.size W.drew W'->Calls Vp.prog 37 #[.agg #[.complex .f32 u.cx u.cy,.int .i64 u.deep,.int .i64 u.size,.slice (some ⟨u.gs,0,none⟩) u.n u.cs,.slice (some ⟨u.gm,0,none⟩) u.n u.cm],.string path] W' fun e w'=>e=.returned (.agg (Ag ⟨u,path,(cnt 0 u.ys:Nat)⟩).toArray)/\Below W'.heap.size W' w'):=fun W' h=>Uz u path (xb+1) W' (HKK.out W' h).2.2
       have HCP:Hid (∀W',Below W.drew.heap.size W.drew W'->Calls Vp.prog 35 #[.agg (Ag ⟨u,path,(cnt 0 u.ys:Nat)⟩).toArray,.pointer (some ⟨rb,0,none⟩),.pointer (some ⟨db,0,none⟩)] W' fun e w'=>e=.returned (.tuple #[])/\Hid (w'.cell? ⟨wo.heap.size,0,none⟩=some (.complex .f32 u.cx u.cy)/\w'.cell? ⟨wo.heap.size,1,none⟩=some (.int .i64 u.deep)/\w'.cell? ⟨wo.heap.size,2,none⟩=some (.int .i64 u.size)/\w'.cell? ⟨wo.heap.size,3,none⟩=some (.slice (some ⟨u.gs,0,none⟩) u.n u.cs)/\w'.cell? ⟨wo.heap.size,4,none⟩=some (.slice (some ⟨u.gm,0,none⟩) u.n u.cm)/\w'.cell? ⟨xb,5,none⟩=some (.string p.path))/\∃H' D' hv' dv',Hid (RfQ c B w bd k1 (i+1) p xb (xb+1) L g cap H' D' hv' dv' w')):=fun W' h=>by
        have k1:=(HKK.out W' h).1;have hn:=k1.M.num;have hpl:=A19 B w (w.heap.size+2) (w.heap.size+3) (w.heap.size+1) H1 D1 hv1 dv1 ⟨u,path,(cnt 0 u.ys:Nat)⟩ (by omega) (by omega) k1.M.ok W' k1.M.I ((HKK.out W' h).2.2.mono (Nat.le_succ_of_le (Ai5 HB0.out HB5.out)))
        rw[hrb,hdb]at hpl
        refine hpl.mono ?_
        rintro e w' ⟨rfl,hpp⟩;rw[<-hrb,<-hdb]at hpp;obtain⟨H',D',hv',dv',hh⟩:=k1.next (by omega) hpp HKU.out HPT.out
        refine⟨rfl,?_,H',D',hv',dv',hh⟩
        obtain⟨_,_,_,_,_,_,hC,_⟩:=hpp;have k2:=(HKK.out W' h).2.1;have k3:=hC.box (⟨k2.blk,k1.M.V4⟩:A8 w wo.heap.size #[.complex .f32 u.cx u.cy,.int .i64 u.deep,.int .i64 u.size,.slice (some ⟨u.gs,0,none⟩) u.n u.cs,.slice (some ⟨u.gm,0,none⟩) u.n u.cm] 35 W') (k1.M.I.aside k2.blk (by decide)) k1.M.I.low
        obtain⟨z0,z1,z2,z3,z4⟩:=k3.Aa
        exact⟨z0,z1,z2,z3,z4,hh.x.cell 5 _ rfl⟩
       have hbk:=Aik W.drew.heap.size W.drew;generalize hCQ:(Ag ⟨u,path,(cnt 0 u.ys:Nat)⟩).toArray=cq at *;clear HKK HW0 X15 HU HKU HXP HPT HQ y0 y1 y2 y3 y4
       go_region_held3 (fun w'=>w'.cell? ⟨wo.heap.size,0,none⟩=some (.complex .f32 u.cx u.cy)/\w'.cell? ⟨wo.heap.size,1,none⟩=some (.int .i64 u.deep)/\w'.cell? ⟨wo.heap.size,2,none⟩=some (.int .i64 u.size)/\w'.cell? ⟨wo.heap.size,3,none⟩=some (.slice (some ⟨u.gs,0,none⟩) u.n u.cs)/\w'.cell? ⟨wo.heap.size,4,none⟩=some (.slice (some ⟨u.gm,0,none⟩) u.n u.cm)/\w'.cell? ⟨xb,5,none⟩=some (.string p.path)) (((first|dsimp only|skip);first |(with_reducible exact HSS.out _ hbk) |(with_reducible exact hs8.out))) (first
        |(go_at_call 37;(with_reducible refine(HCA.out _ hbk).mono ?_);rintro e w' ⟨rfl,hb⟩;replace hbk:=hbk.trans (hb.mono hbk.size);clear hb)
        |(go_at_call 35;(with_reducible refine(HCP.out _ hbk).mono ?_);rintro e w' ⟨rfl,hs8,hnx⟩))
       all_goals
        obtain⟨H2,D2,hv2,dv2,hh2⟩:=hnx;clear HSS HCA HCP hs8 A0 sl
        go_wp2
        go_roundw
        case rel=>exact⟨i+1,H2,D2,hv2,dv2,by omega,by go_num,hh2⟩
        case measure=>simp[intOf];omega
      ·obtain rfl:i=4:=by omega
       have HD:Hid (RfS c B w bd k1 H1 D1 hv1 dv1 wo):=HQ.out.M.done;clear HQ
       go_wp2
       go_roundw
       case rel=>exact⟨k1,H1,D1,hv1,dv1,by omega,by go_num,HD⟩
       case measure=>simp[intOf]
end
section
open Go.RowKit Go.Sort Flo
def wtD (d:Int):Int:=wrap64 (2^(2 *(10-d)).toNat)
def Ae2 (p m wt:Int):Int:=wrap64 (p+wrap64 (m*wt))
def H9 (v:Int)(L:List (Int×List Int)):Int:=L.foldl (fun p t=>Ae2 p (cnt v t.2:Nat) (wtD t.1)) 0
theorem Ws (v:Int)(L:List (Int×List Int))(t:Int×List Int):H9 v (L++[t])=Ae2 (H9 v L) (cnt v t.2:Nat) (wtD t.1):=by unfold H9;rw[List.foldl_append];rfl
noncomputable def Yw (c:Hf)(v:Int)(L:List (List UInt8)):Int:=L.foldl (fun p bs=>Ae2 p (Mc c v bs) (wtD ((Dz c).deep bs))) 0
theorem Qy {c:Hf}{v:Int}:∀{L:List (List UInt8)} {M:List Ai},L.length=M.length ->(∀(i:Nat) bs t,L[i]?=some bs->M[i]?=some t->L7 c bs t)->Yw c v L=H9 v (M.map fun t=>(t.deep,t.ys)):=by
 intro L M hl h;unfold Yw H9;rw[List.foldl_map];generalize (0:Int)=z
 induction L generalizing M z with
 | nil =>
   cases M with
   | nil=>rfl
   | cons _ _=>simp at hl
 | cons bs L ih =>
   cases M with
   | nil=>simp at hl
   | cons t M =>
     have h0:=h 0 bs t rfl rfl;rw[An5,An5,Hi h0,<-h0.deep]
     exact ih (by simpa using hl) (fun i bs t h1 h2=>h (i+1) bs t h1 h2) _
theorem A5d {c:Hf}{v:Int}:∀{L:List (List UInt8)} {M:List Ai},L.length=M.length ->(∀(i:Nat) bs t,L[i]?=some bs->M[i]?=some t->L7 c bs t)->L.map (Mc c v)=M.map fun t=>((cnt v t.ys:Nat):Int):=by
 intro L M hl h
 induction L generalizing M with
 | nil =>
   cases M with
   | nil=>rfl
   | cons _ _=>simp at hl
 | cons bs L ih =>
   cases M with
   | nil=>simp at hl
   | cons t M =>
     rw[Ak4,Ak4,Hi (h 0 bs t rfl rfl),ih (by simpa using hl) (fun i bs t h1 h2=>h (i+1) bs t h1 h2)]
def A8h (c:Hf)(B:Nat)(L:List (List UInt8))(e:Ending)(w':World):Prop :=
 ∃(gp cp g cap n:Nat) (P:List ByteArray),e=.returned (.tuple #[.agg #[.slice (some ⟨gp,0,none⟩) n cp,.slice (some ⟨g,0,none⟩) n cap,.int .i64 (Yw c 1 L),.int .i64 (Yw c (-1) L),.int .i64 (Yw c 0 L)],.bool true]) /\
  w'.ownsRow B 9 1 (.slice (some ⟨gp,0,none⟩) n cp) n (P.map Value.string)/\w'.ownsRow B 3 1 (.slice (some ⟨g,0,none⟩) n cap) n ((L.map (Mc c 0)).map Av)/\P.map ByteArray.toList=L/\L.length=n/\0<n/\n<=91 /\(∀s,s∈P->s.size<=10)
def Z3:Value:=.tuple #[.agg #[.slice none 0 0,.slice none 0 0,.int .i64 0,.int .i64 0,.int .i64 0],.bool false]
def Je (cx cy:Nat)(deep size A4 budget:Int):Prop:=∃(d0 bd:Nat) (G:List (List UInt8)),deep=d0/\budget=bd/\bd<=30/\Uu cx cy deep size /\(Dz ⟨size,A4,cx,cy,d0⟩).Gk bd [[]] (some G)
def I6 (w:World)(cx cy:Nat)(deep size A4 budget:Int)(R:List (List UInt8)->Prop)(e:Ending)(w':World):Prop :=
 Below w.heap.size w w' /\((e=.returned Z3/\¬Je cx cy deep size A4 budget) \/
  ∃(d0 bd:Nat) (L G:List (List UInt8)),deep=d0/\budget=bd/\bd<=30/\Uu cx cy deep size/\A8h ⟨size,A4,cx,cy,d0⟩ w.heap.size L e w'/\R L /\(Dz ⟨size,A4,cx,cy,d0⟩).Gk bd [[]] (some G)/\L.Perm G)
end
section
open Go.RowKit Go.Sort Flo
theorem A53:(Vp.prog.info? 9).map (fun i=>(i.zero,i.size,i.bytes))=some (some (.string ⟨#[]⟩),1,16):=by kernel_rfl
structure PN (W0:World)(ob k1 k2:Nat)(P:List ByteArray)(ms:List Int)(pv mkv:Value)(p q r:Int)(W:World):Prop where
 O:A8 W0 ob #[pv,mkv,.int .i64 p,.int .i64 q,.int .i64 r] 29 W
 S:W.ownsRow W0.heap.size 9 1 pv k1 (P.map Value.string)
 M:W.ownsRow W0.heap.size 3 1 mkv k2 (ms.map Av)
 ho:W0.heap.size<=ob
section
variable {W0 W W' : World} {ob k1 k2 : Nat} {P : List ByteArray} {ms : List Int} {pv mkv : Value} {p q r : Int}
theorem PN.step (h:PN W0 ob k1 k2 P ms pv mkv p q r W)(k:Below W.heap.size W W'):PN W0 ob k1 k2 P ms pv mkv p q r W':=⟨h.O.step k,Ab h.S k,Ab h.M k,h.ho⟩
theorem PN.alloc (h:PN W0 ob k1 k2 P ms pv mkv p q r W)(o:Obj):PN W0 ob k1 k2 P ms pv mkv p q r (W.alloc o):=h.step ((Aik _ _).alloc (Ai3 _) o)
theorem PN.str (h:PN W0 ob k1 k2 P ms pv mkv p q r W){v':Value}{s:ByteArray}(hown:W'.ownsRow W0.heap.size 9 1 v' (k1+1) (P.map Value.string++[.string s]))(hg:W.grownBy W' pv.ownBlock) :
 PN W0 ob (k1+1) k2 (P++[s]) ms v' mkv p q r (W'.setCell ⟨ob,0,none⟩ v')/\W'.cell? ⟨ob,0,none⟩=some pv/\W'.frozen? ⟨ob,0,none⟩=false/\∀(xb:Nat) (C:Array Value),A8 W0 xb C 52 W->A8 W0 xb C 52 (W'.setCell ⟨ob,0,none⟩ v'):=by
 have hrow:∀k,pv.ownBlock=some k->W0.heap.size<=k:=fun k hk=>(h.S.lt k hk).1
 have O:=h.O.grown hg (Af h.S h.O.blk (by decide)) hrow
 have M:=(Fx.Np (S:=fun k=>pv.ownBlock=some k) hg (fun k hk=>hk)).owns h.M fun b hb hs=>by
  obtain⟨_,C,hc⟩:=Cn h.M hb
  exact Af h.S hc (by decide) hs
 refine⟨⟨O.set h.ho 0 v',?_,A6 M O.blk (by decide) _,h.ho⟩,O.cell 0 _ rfl,O.frozen 0,fun xb C X=>?_⟩
 ·rw[Aj1]
  exact A6 hown O.blk (by decide) _
 ·have hne:xb≠ob:=fun e=>by
   subst e;have:=X.blk.symm.trans h.O.blk;injection this with this
   injection this with _ this
   revert this
   decide
  exact(X.grown hg (Af h.S X.blk (by decide)) hrow).other (p:=⟨ob,0,none⟩) h.ho hne _
theorem PN.mrk (h:PN W0 ob k1 k2 P ms pv mkv p q r W){v':Value}{z:Int}(hown:W'.ownsRow W0.heap.size 3 1 v' (k2+1) (ms.map Av++[Av z]))(hg:W.grownBy W' mkv.ownBlock) :
 PN W0 ob k1 (k2+1) P (ms++[z]) pv v' p q r (W'.setCell ⟨ob,1,none⟩ v')/\W'.cell? ⟨ob,1,none⟩=some mkv/\W'.frozen? ⟨ob,1,none⟩=false/\∀(xb:Nat) (C:Array Value),A8 W0 xb C 52 W->A8 W0 xb C 52 (W'.setCell ⟨ob,1,none⟩ v'):=by
 have hrow:∀k,mkv.ownBlock=some k->W0.heap.size<=k:=fun k hk=>(h.M.lt k hk).1
 have O:=h.O.grown hg (Af h.M h.O.blk (by decide)) hrow
 have S:=(Fx.Np (S:=fun k=>mkv.ownBlock=some k) hg (fun k hk=>hk)).owns h.S fun b hb hs=>by
  obtain⟨_,C,hc⟩:=Cn h.S hb
  exact Af h.M hc (by decide) hs
 refine⟨⟨O.set h.ho 1 v',A6 S O.blk (by decide) _,?_,h.ho⟩,O.cell 1 _ rfl,O.frozen 1,fun xb C X=>?_⟩
 ·rw[Aj1]
  exact A6 hown O.blk (by decide) _
 ·have hne:xb≠ob:=fun e=>by
   subst e;have:=X.blk.symm.trans h.O.blk;injection this with this
   injection this with _ this
   revert this
   decide
  exact(X.grown hg (Af h.M X.blk (by decide)) hrow).other (p:=⟨ob,1,none⟩) h.ho hne _
theorem PN.Af8 (h:PN W0 ob k1 k2 P ms pv mkv p q r W)(x y z:Int):PN W0 ob k1 k2 P ms pv mkv x y z (((W.setCell ⟨ob,2,none⟩ (.int .i64 x)).setCell ⟨ob,3,none⟩ (.int .i64 y)).setCell ⟨ob,4,none⟩ (.int .i64 z)):=by
 have b1:=h.O.set h.ho 2 (.int .i64 x);have b2:=b1.set h.ho 3 (.int .i64 y)
 exact⟨b2.set h.ho 4 _,A6 (A6 (A6 h.S h.O.blk (by decide) _) b1.blk (by decide) _) b2.blk (by decide) _,A6 (A6 (A6 h.M h.O.blk (by decide) _) b1.blk (by decide) _) b2.blk (by decide) _,h.ho⟩
end
theorem A2u (t:Ai)(B:Nat)(W':World)(h:C9 B t W'):Calls Vp.prog 17 #[.slice (some ⟨t.gm,0,none⟩) t.n t.cm] W' fun e w'=>e=.returned (.agg #[.int .i64 (cnt 1 t.ys:Nat),.int .i64 (cnt (-1) t.ys:Nat),.int .i64 (cnt 0 t.ys:Nat)])/\Below W'.heap.size W' w':=by
 have hb':=Bj h.pl;have hl:=h.made.ly
 have hn:t.n<=64:=by
  unfold Ai.n;have:t.size.toNat<=8:=by omega
  exact Ajm this this
 have:=Kg (some ⟨t.gm,0,none⟩) t.cm t.ys (by omega) h.made.hy W' (Dv h.made.M)
 rw[hl]at this;have hcq:Fy t.ys t.n=#[.int .i64 (cnt 1 t.ys:Nat),.int .i64 (cnt (-1) t.ys:Nat),.int .i64 (cnt 0 t.ys:Nat)]:=by unfold Fy;rw[<-hl,Amz]
 rwa [hcq]at this
theorem A3m {W:World}{B g cap n k:Nat}{L:List Ad}{p:Ad}(h:W.ownsRow B 52 7 (.slice (some ⟨g,0,none⟩) n cap) n (Ao L))(hL:L.length=n)(hp:L[k]?=some p) :
 W.cell? ⟨g,k*7,none⟩=some (.complex .f32 p.t.cx p.t.cy)/\W.cell? ⟨g,k*7+1,none⟩=some (.int .i64 p.t.deep)/\W.cell? ⟨g,k*7+2,none⟩=some (.int .i64 p.t.size)/\W.cell? ⟨g,k*7+3,none⟩=some (.slice (some ⟨p.t.gs,0,none⟩) p.t.n p.t.cs)/\W.cell? ⟨g,k*7+4,none⟩=some (.slice (some ⟨p.t.gm,0,none⟩) p.t.n p.t.cm)/\W.cell? ⟨g,k*7+5,none⟩=some (.string p.path)/\W.cell? ⟨g,k*7+6,none⟩=some (.int .i64 p.opn):=by
 obtain⟨hk,he⟩:=Aii.1 hp;obtain⟨R,-,-⟩:=Gi (d:=L.toArray) (by simpa using h) (by simpa using hL)
 have hd:L.toArray[k]! = p:=by rw[Aks L.toArray k (by simpa using hk)];simpa using he
 have at_:∀j v,(Ag p)[j]?=some v->W.cell? ⟨g,k*7+j,none⟩=some v:=fun j v hv=>R.cell (by simpa using hk) (by rw[hd];exact hv)
 exact⟨at_ 0 _ rfl,at_ 1 _ rfl,at_ 2 _ rfl,at_ 3 _ rfl,at_ 4 _ rfl,at_ 5 _ rfl,at_ 6 _ rfl⟩
end
section
open Go.RowKit Go.Sort Flo
attribute [local go_sem ↓] Go.wp_at_zero Go.wp_at_succ
attribute [local go_sem] A7 A5
theorem A1b (cx cy:Nat)(deep size A4 budget:Int)(hx:cx<4294967296)(hy:cy<4294967296)(w:World) :
 Calls Vp.prog 6 #[.complex .f32 cx cy,.int .i64 deep,.int .i64 size,.int .i64 A4,.int .i64 budget] w (I6 w cx cy deep size A4 budget (fun L=>L.Pairwise (fun a b=>Op.bytesLess b a=false))):=by
 have HMK:=Ai1 (fun W=>Ou cx cy deep size A4 hx hy W)
 have R:=A8.new w #[.slice none 0 0,.slice none 0 0,.int .i64 0,.int .i64 0,.int .i64 0] 29;have HR:=Ai1 R;obtain⟨r0,r1,r2,r3,r4⟩:=R.Aa;obtain⟨f0,f1,f2,f3,f4⟩:=R.E7;clear R
 have hcase:budget<0\/30<budget\/∃bd:Nat,budget=bd/\bd<=30:=by
  rcases Akj budget 0 with h|h
  ·exact .inl h
  ·rcases Akj 30 budget with g|g
   ·exact .inr (.inl g)
   ·exact .inr (.inr ⟨budget.toNat,by omega,by omega⟩)
 rcases hcase with hb1|hb2 |⟨bd,rfl,hbd⟩
 ·have HNO:Hid (¬Je cx cy deep size A4 budget):=fun⟨_,bd,_,_,e,_⟩=>by omega
  have e1:decide (budget<0)=true:=Aip hb1;clear hb1 HMK
  go_enter Vp.func6,Tryz.ntmps6
  go_wp2
  exact Ai6 (v:=.tuple #[.agg #[.slice none 0 0,.slice none 0 0,.int .i64 0,.int .i64 0,.int .i64 0],.bool false]) (by simp[results,Tryz.f6,go_sem,r0,r1,r2,r3,r4]) rfl ⟨HR.out.old,.inl ⟨rfl,HNO.out⟩⟩
 ·have HNO:Hid (¬Je cx cy deep size A4 budget):=fun⟨_,bd,_,_,e,h,_⟩=>by omega
  have e1:decide (budget<0)=false:=Aj0 (by omega)
  have e2:decide (30<budget)=true:=Aip hb2;clear hb2 HMK
  go_enter Vp.func6,Tryz.ntmps6
  go_wp2
  exact Ai6 (v:=.tuple #[.agg #[.slice none 0 0,.slice none 0 0,.int .i64 0,.int .i64 0,.int .i64 0],.bool false]) (by simp[results,Tryz.f6,go_sem,r0,r1,r2,r3,r4]) rfl ⟨HR.out.old,.inl ⟨rfl,HNO.out⟩⟩
 ·have e1:decide ((bd:Int)<0)=false:=Aj0 (by omega)
  have e2:decide ((30:Int) <(bd:Int))=false:=Aj0 (by omega)
  go_enter Vp.func6,Tryz.ntmps6
  go_wp2_with fail
  refine(HMK.out _).mono ?_
  rintro e w1 ⟨⟨x,y,dd,ss,a1,n1,c1,a2,n2,c2,ok,rfl,hM⟩,hb1⟩;have HM:=Ai1 hM;have HB1:=Ai1 hb1;have HR1:=Ai1 ((HR.out.step HB1.out).alloc (.cells #[.complex .f32 x y,.int .i64 dd,.int .i64 ss,.slice a1 n1 c1,.slice a2 n2 c2] 35));have htb:w.heap.size<w1.heap.size:=(HR.out.step HB1.out).lt;clear hM hb1 r0 r1 r2 r3 r4 f0 f1 f2 f3 f4
  cases ok with
  | false =>
    have HNO:Hid (¬Je cx cy deep size A4 bd):=fun⟨_,_,_,_,_,_,h,_⟩=>(HM.out.1 rfl).1 h
    have HBX:=Ai1 (HR.out.step HB1.out).old;have hbx:=HBX.out.size;have HZ:=Ai1 (((HR.out.step HB1.out).I1 (Ai3 _) (.slice none 0 0) (.slice none 0 0) (.int .i64 0) (.int .i64 0) (.int .i64 0)).alloc (.cells #[.complex .f32 x y,.int .i64 dd,.int .i64 ss,.slice a1 n1 c1,.slice a2 n2 c2] 35));obtain⟨r0,r1,r2,r3,r4⟩:=(HR.out.step HB1.out).Aa;obtain⟨f0,f1,f2,f3,f4⟩:=(HR.out.step HB1.out).E7;clear e1 e2 HR1
    go_wp2
    obtain⟨z0,z1,z2,z3,z4⟩:=HZ.out.Aa
    exact Ai6 (v:=.tuple #[.agg #[.slice none 0 0,.slice none 0 0,.int .i64 0,.int .i64 0,.int .i64 0],.bool false]) (by simp[results,Tryz.f6,go_sem,z0,z1,z2,z3,z4]) rfl ⟨(I1 HBX.out (Ai3 _) _ _ _ _ _).alloc (by simp;omega) _,.inl ⟨rfl,HNO.out⟩⟩
  | true =>
    obtain⟨t,q1,q2,q3,q4,q5,ht,hgood⟩:=HM.out.2 rfl;obtain⟨d0,s0,hd0,hs0,-,-,-,-⟩:=hgood.n
    have hMK:Uu cx cy deep size:=by
     obtain⟨d,s,a,b,g1,g2,g3,-,-⟩:=hgood;rw[<-q1,<-q2,<-q3,<-q4]
     exact⟨d,s,a,b,g1,g2,g3⟩
    have HMKP:=Ai1 hMK
    have hC:(#[.complex .f32 x y,.int .i64 dd,.int .i64 ss,.slice a1 n1 c1,.slice a2 n2 c2]:Array Value)=#[.complex .f32 t.cx t.cy,.int .i64 t.deep,.int .i64 t.size,.slice (some ⟨t.gs,0,none⟩) t.n t.cs,.slice (some ⟨t.gm,0,none⟩) t.n t.cm]:=by
     injection q5
    injection hC with hC
    simp only[List.cons.injEq,and_true]at hC;obtain⟨g1,g2,g3,g4,g5⟩:=hC;injection g1 with _ g1 g1'
    injection g2 with _ g2
    injection g3 with _ g3
    injection g4 with g4 g4' g4''
    injection g5 with g5 g5' g5''
    subst g1 g1' g2 g3 g4 g4' g4'' g5 g5' g5'';have hd1:deep=d0:=q3.symm.trans hd0;subst hd1;have hat:L7 ⟨size,A4,cx,cy,d0⟩ [] t:=⟨⟨d0,hd0,q1,q2,rfl⟩,q4,hgood⟩
    have ho:C9 (w.heap.size+1) t (w1.alloc (.cells #[.complex .f32 t.cx t.cy,.int .i64 t.deep,.int .i64 t.size,.slice (some ⟨t.gs,0,none⟩) t.n t.cs,.slice (some ⟨t.gm,0,none⟩) t.n t.cm] 35)):=by
     have:=ht;rw[Aim]at this
     exact this.step ((Aik _ _).alloc (Ai3 _) _)
    have CR:=Ai1 (A7a ⟨size,A4,cx,cy,d0⟩ (w.heap.size+1) bd t hbd _ (by have:=HR1.out.lt;omega) ho hat)
    rw[show t.cells.toArray=#[.complex .f32 t.cx t.cy,.int .i64 t.deep,.int .i64 t.size,.slice (some ⟨t.gs,0,none⟩) t.n t.cs,.slice (some ⟨t.gm,0,none⟩) t.n t.cm]from rfl]at CR;obtain⟨r0,r1,r2,r3,r4⟩:=(HR.out.step HB1.out).Aa;obtain⟨f0,f1,f2,f3,f4⟩:=(HR.out.step HB1.out).E7;clear hMK hat ho hgood q1 q2 q3 q4 q5 ht hd0 hs0 HM e1 e2
    go_wp2_with fail
    refine CR.out.mono ?_
    rintro e w2 ⟨hb2,⟨rfl,hfl⟩ |⟨g,cap,n,L,G,rfl,hLn,hnb,hn0,hrow,hel,hpw,hG,hGp⟩⟩
    ·have HNO:Hid (¬Je cx cy d0 size A4 bd):=fun⟨d0',bd',G,e1,e2,_,_,h⟩=>by
      obtain rfl:d0=d0':=by omega
      obtain rfl:bd=bd':=by omega
      exact hfl.det (Amp _) h
     have HR2:=Ai1 (HR1.out.step hb2);clear hfl hb2 CR r0 r1 r2 r3 r4 f0 f1 f2 f3 f4;obtain⟨r0,r1,r2,r3,r4⟩:=HR2.out.Aa;obtain⟨f0,f1,f2,f3,f4⟩:=HR2.out.E7
     go_wp2
     exact Ai6 (v:=.tuple #[.agg #[.slice none 0 0,.slice none 0 0,.int .i64 0,.int .i64 0,.int .i64 0],.bool false]) (by simp[results,Tryz.f6,go_sem,r0,r1,r2,r3,r4]) rfl ⟨I1 HR2.out.old (Ai3 _) _ _ _ _ _,.inl ⟨rfl,HNO.out⟩⟩
    ·have HR2:=Ai1 (HR1.out.step hb2);have HROW:=Ai1 hrow;have HEL:=Ai1 hel;have HPW:=Ai1 hpw;have HG:=Ai1 (And.intro hG hGp);have HLN:=Ai1 hLn;have hn91:n<=91:=by omega
     clear hb2 hrow hel hpw hG hGp hLn CR r0 r1 r2 r3 r4 f0 f1 f2 f3 f4;obtain⟨iS,hiS,hzS0,hzS1,hzS2⟩:=Ajw A53;obtain⟨iI,hiI,hzI0,hzI1,hzI2⟩:=Ajw Po
     go_upto_region 10 with fail
     have HP0:Hid (PN w2 w2.heap.size 0 0 [] [] (.slice none 0 0) (.slice none 0 0) 0 0 0 (w2.alloc (.cells #[.slice none 0 0,.slice none 0 0,.int .i64 0,.int .i64 0,.int .i64 0] 29))) :=
      ⟨A8.new w2 _ _,⟨rfl,.inl ⟨rfl,rfl⟩⟩,⟨rfl,.inl ⟨rfl,rfl⟩⟩,Ai3 _⟩
     have HOB:Hid (w.heap.size<w2.heap.size):=HR2.out.lt;generalize w2.alloc (.cells #[.slice none 0 0,.slice none 0 0,.int .i64 0,.int .i64 0,.int .i64 0] 29)=wb at *;obtain⟨ob,hob⟩:∃ob,w2.heap.size=ob:=⟨_,rfl⟩;have HW2:Hid (w2.heap.size=ob):=hob;rw[hob]at HP0 ⊢;clear hob
     go_wp2
     go_loopw [51] (fun iv wr=>∃(k:Nat) (pv mkv:Value) (x y z:Int),k<=n/\iv=.int .i64 k/\Hid (PN w2 ob k k ((L.take k).map Ad.path) ((L.take k).map Ad.opn) pv mkv x y z wr)/\Hid (x=H9 1 ((L.take k).map fun q=>(q.t.deep,q.t.ys))/\y=H9 (-1) ((L.take k).map fun q=>(q.t.deep,q.t.ys))/\z=H9 0 ((L.take k).map fun q=>(q.t.deep,q.t.ys)))) (fun iv _=>(n-intOf iv).toNat)
     case atStart=>exact⟨0,_,_,0,0,0,by omega,rfl,HP0,rfl,rfl,rfl⟩
     case round =>
      clear HP0;obtain⟨k,pv,mkv,x,y,z,hk,rfl,HP,HS⟩:=hrel;obtain⟨wo,rfl⟩:∃wo,wo=wr:=⟨_,rfl⟩
      by_cases hlt:k<n
      ·obtain⟨p,hp⟩:∃p,L[k]?=some p:=⟨_,Aig (by have:=HLN.out;omega)⟩
       obtain⟨y0,y1,y2,y3,y4,y5,y6⟩:=A3m (Ab HROW.out HP.out.O.old) HLN.out hp;have HEP:=Ai1 (HEL.out p (Aiu hp))
       have HTK:Hid (L.take (k+1)=L.take k++[p]):=by
        show _=_
        rw[List.take_add_one,hp];rfl
       have b5:(k:Int)<n:=by omega
       have b6:(0:Int)<=k:=by omega
       clear hp
       go_upto_region 13 with fail
       have e2:(Ag p).toArray=#[.complex .f32 p.t.cx p.t.cy,.int .i64 p.t.deep,.int .i64 p.t.size,.slice (some ⟨p.t.gs,0,none⟩) p.t.n p.t.cs,.slice (some ⟨p.t.gm,0,none⟩) p.t.n p.t.cm,.string p.path,.int .i64 p.opn]:=rfl;have X1:=(A8.new wo #[.complex .f32 p.t.cx p.t.cy,.int .i64 p.t.deep,.int .i64 p.t.size,.slice (some ⟨p.t.gs,0,none⟩) p.t.n p.t.cs,.slice (some ⟨p.t.gm,0,none⟩) p.t.n p.t.cm,.string p.path,.int .i64 p.opn] 52).up HP.out.O.old;have HX1:=Ai1 X1;have HP1:=Ai1 (HP.out.alloc (.cells #[.complex .f32 p.t.cx p.t.cy,.int .i64 p.t.deep,.int .i64 p.t.size,.slice (some ⟨p.t.gs,0,none⟩) p.t.n p.t.cs,.slice (some ⟨p.t.gm,0,none⟩) p.t.n p.t.cm,.string p.path,.int .i64 p.opn] 52));clear X1 HP y0 y1 y2 y3 y4 y5 y6 e2;generalize wo.alloc (.cells #[.complex .f32 p.t.cx p.t.cy,.int .i64 p.t.deep,.int .i64 p.t.size,.slice (some ⟨p.t.gs,0,none⟩) p.t.n p.t.cs,.slice (some ⟨p.t.gm,0,none⟩) p.t.n p.t.cm,.string p.path,.int .i64 p.opn] 52)=W1 at *;generalize wo.heap.size=xb at *;have o0:=HP1.out.O.cell 0 _ rfl;obtain⟨x0,x1,x2,x3,x4,x5,x6⟩:=HX1.out.Cv;have hml:k+1<=maxLen:=by unfold maxLen;omega
       have HOW:Hid ((W1.alloc (.cells #[.string p.path] 9)).ownsRow w2.heap.size 9 1 pv k (((L.take k).map Ad.path).map Value.string)):=(HP1.out.alloc _).S;have HSZ:Hid (w2.heap.size <=(W1.alloc (.cells #[.string p.path] 9)).heap.size):=(HP1.out.alloc (.cells #[.string p.path] 9)).O.old.size
       go_upto_region 14 with(at_builtin;refine Ds _ rfl _ _ _ rfl w2.heap.size 9 iS _ 1 16 (Vp.Di Tryz.underlying26) hiS hzS0 hzS1 hzS2 rfl (by omega) _ k (((L.take k).map Ad.path).map Value.string) rfl HOW.out ⟨W1.heap.size,0,none⟩ 1 1 [.string p.path] rfl rfl (World.news_of_block (cs:=#[.string p.path]) (t:=9) (fr:=(0,0)) (Ak6 W1 _)) (by simp[Value.oneCell']) hml (by omega) HSZ.out ?_;intro v6 w6 hown6 hgrow6 hmv6;obtain⟨g6,c6,rfl,-,-⟩:=ownsRow_form hown6 (by omega);have H6:=Ai1 (And.intro ((HP1.out.alloc (.cells #[.string p.path] 9)).str hown6 hgrow6) (HX1.out.alloc (.cells #[.string p.path] 9)));have k0:=H6.out.1.2.1;have q0:=H6.out.1.2.2.1;clear hown6 hgrow6 hmv6)
       have HP2:=Ai1 H6.out.1.1;have HX2:=Ai1 (H6.out.1.2.2.2 _ _ H6.out.2);clear H6 k0 q0 HP1 HX1 HOW HSZ o0 x0 x1 x2 x3 x4 x5 x6;generalize w6.setCell ⟨ob,0,none⟩ (.slice (some ⟨g6,0,none⟩) (k+1) c6)=W2 at *;have o1:=HP2.out.O.cell 1 _ rfl;obtain⟨x0,x1,x2,x3,x4,x5,x6⟩:=HX2.out.Cv;have HOW:Hid ((W2.alloc (.cells #[.int .i64 p.opn] 3)).ownsRow w2.heap.size 3 1 mkv k (((L.take k).map Ad.opn).map Av)):=(HP2.out.alloc _).M;have HSZ:Hid (w2.heap.size <=(W2.alloc (.cells #[.int .i64 p.opn] 3)).heap.size):=(HP2.out.alloc (.cells #[.int .i64 p.opn] 3)).O.old.size
       go_upto_region 15 with(at_builtin;refine Ds _ rfl _ _ _ rfl w2.heap.size 3 iI _ 1 8 (Vp.Di Tryz.underlying27) hiI hzI0 hzI1 hzI2 rfl (by omega) _ k (((L.take k).map Ad.opn).map Av) rfl HOW.out ⟨W2.heap.size,0,none⟩ 1 1 [Av p.opn] rfl rfl (World.news_of_block (cs:=#[Av p.opn]) (t:=3) (fr:=(0,0)) (Ak6 W2 _)) (by simp[Av,Value.oneCell']) hml (by omega) HSZ.out ?_;intro v7 w7 hown6 hgrow6 hmv6;obtain⟨g7,c7,rfl,-,-⟩:=ownsRow_form hown6 (by omega);have H7:=Ai1 (And.intro ((HP2.out.alloc (.cells #[.int .i64 p.opn] 3)).mrk hown6 hgrow6) (HX2.out.alloc (.cells #[.int .i64 p.opn] 3)));have k0:=H7.out.1.2.1;have q0:=H7.out.1.2.2.1;clear hown6 hgrow6 hmv6)
       have HP3:=Ai1 H7.out.1.1;have HX3:=Ai1 (H7.out.1.2.2.2 _ _ H7.out.2);clear H7 k0 q0 HP2 HX2 HOW HSZ o1 x0 x1 x2 x3 x4 x5 x6 hml hzS0 hzS1 hzS2 hzI0 hzI1 hzI2 hiS hiI;generalize w7.setCell ⟨ob,1,none⟩ (.slice (some ⟨g7,0,none⟩) (k+1) c7)=W3 at *;obtain⟨x0,x1,x2,x3,x4,x5,x6⟩:=HX3.out.Cv;have CC:=Ai1 (A2u p.t (w.heap.size+1) W3 ((HEP.out.2.step HP3.out.O.old)))
       have HDP:Hid (0<=p.t.deep/\p.t.deep<=10):=by
        have:=Bj HEP.out.2.pl
        exact⟨this.1,this.2.1⟩
       obtain⟨sh1,hs1⟩:∃s:Nat,10-p.t.deep=(s:Int):=⟨(10-p.t.deep).toNat,by have:=HDP.out;omega⟩
       obtain⟨sh2,hs2⟩:∃s:Nat,2 *(sh1:Int)=(s:Int):=⟨2*sh1,by omega⟩
       have hs3:sh2<=20:=by have:=HDP.out;omega
       have HSH:Hid ((2 *(10-p.t.deep)).toNat=sh2):=by
        show _=_
        omega
       have v1:IntKind.i64.wrap (10-p.t.deep)=(sh1:Int):=by rw[hs1];exact Ajh _ (by omega)
       have v2:IntKind.i64.wrap (2 *(sh1:Int))=(sh2:Int):=by rw[hs2];exact Ajh _ (by omega)
       have HM1:Hid (∃m1 m2 m0:Int,((cnt 1 p.t.ys:Nat):Int)=m1 /\((cnt (-1) p.t.ys:Nat):Int)=m2 /\((cnt 0 p.t.ys:Nat):Int)=m0):=⟨_,_,_,rfl,rfl,rfl⟩;obtain⟨m1,m2,m0,hm1,hm2,hm0⟩:=HM1.out;rw[hm1,hm2,hm0]at CC;have HMM:=Ai1 (And.intro hm1 (And.intro hm2 hm0));clear HM1 hm1 hm2 hm0
       go_upto_region 16 with fail
       have hwt:wrap64 (2^sh2)=wtD p.t.deep:=by
        unfold wtD;rw[HSH.out]
       have HWT:=Ai1 hwt;generalize wrap64 (2^sh2)=wt at *;clear hwt v1 v2 hs1 hs2 hs3 HSH
       go_wp2_with fail
       refine CC.out.mono ?_
       rintro e w8 ⟨rfl,hb8⟩;have HP5:=Ai1 ((HP3.out.step hb8).alloc (.cells #[.int .i64 m1,.int .i64 m2,.int .i64 m0] 53));have HOL:Hid (ob<w8.heap.size):=(HP3.out.step hb8).O.lt;have HCB:=Ai1 (A8.new w8 #[.int .i64 m1,.int .i64 m2,.int .i64 m0] 53);clear hb8 CC HP3 HX3 x0 x1 x2 x3 x4 x5 x6
       go_upto_region 17 with fail
       generalize w8.alloc (.cells #[.int .i64 m1,.int .i64 m2,.int .i64 m0] 53)=W5 at *;have hol:=HOL.out;generalize w8.heap.size=cb at *;have c0:=HCB.out.cell 0 _ rfl;have c1:=HCB.out.cell 1 _ rfl;have c2:=HCB.out.cell 2 _ rfl;obtain⟨-,-,o2,o3,o4⟩:=HP5.out.O.Aa;obtain⟨-,-,f2,f3,f4⟩:=HP5.out.O.E7;have hne:¬cb=ob:=by omega
       have hne':¬ob=cb:=by omega
       go_wp2
       go_roundw
       case rel =>
        refine⟨k+1,.slice (some ⟨g6,0,none⟩) (k+1) c6,.slice (some ⟨g7,0,none⟩) (k+1) c7,wrap64 (x+wrap64 (m1*wt)),wrap64 (y+wrap64 (m2*wt)),wrap64 (z+wrap64 (m0*wt)),by omega,by go_num,?_,?_⟩
        ·rw[HTK.out,Aj1,Aj1]
         exact HP5.out.Af8 _ _ _
        ·rw[HTK.out];simp only[Aj1,Ak4,Ald,Ws];rw[<-HS.out.1,<-HS.out.2.1,<-HS.out.2.2,HMM.out.1,HMM.out.2.1,HMM.out.2.2,<-HWT.out]
         exact⟨rfl,rfl,rfl⟩
       case measure=>simp[intOf];omega
      ·have hkn:k=n:=by omega
       subst hkn;obtain⟨gp,cp,rfl,-,-⟩:=ownsRow_form HP.out.S hn0;obtain⟨gm,cm,rfl,-,-⟩:=ownsRow_form HP.out.M hn0;have hTK:L.take k=L:=Ajz (by have:=HLN.out;omega)
       have HRN:=Ai1 (HR2.out.step HP.out.O.old)
       have HFIN:Hid (I6 w cx cy d0 size A4 bd (fun L=>L.Pairwise (fun a b=>Op.bytesLess b a=false)) (.returned (.tuple #[.agg #[.slice (some ⟨gp,0,none⟩) k cp,.slice (some ⟨gm,0,none⟩) k cm,.int .i64 x,.int .i64 y,.int .i64 z],.bool true]))
        (((((wo.setCell ⟨w.heap.size,0,none⟩ (.slice (some ⟨gp,0,none⟩) k cp)).setCell ⟨w.heap.size,1,none⟩ (.slice (some ⟨gm,0,none⟩) k cm)).setCell ⟨w.heap.size,2,none⟩ (.int .i64 x)).setCell ⟨w.heap.size,3,none⟩ (.int .i64 y)).setCell ⟨w.heap.size,4,none⟩ (.int .i64 z))):=by
        obtain⟨q1,q2,q3⟩:=HS.out;have hS:=HP.out.S;have hM:=HP.out.M;rw[hTK]at q1 q2 q3 hS hM;have hlen:(F6 L).length=(L.map (·.t)).length:=by unfold F6;rw[Ajp,Ajp]
        have hAt:∀(i:Nat) bs (t:Ai),(F6 L)[i]?=some bs ->(L.map (·.t))[i]?=some t->L7 ⟨size,A4,cx,cy,d0⟩ bs t:=fun i bs t h1 h2=>by
         unfold F6 at h1;rw[Aiw]at h1 h2;obtain⟨u,hu,rfl⟩:=Aif.1 h1;obtain⟨u',hu',rfl⟩:=Aif.1 h2;rw[hu]at hu';injection hu' with hu'
         subst hu'
         exact(HEL.out u (Aiu hu)).1.at_
        have hsum:∀v,Yw ⟨size,A4,cx,cy,d0⟩ v (F6 L)=H9 v (L.map fun q=>(q.t.deep,q.t.ys)):=fun v=>by
         rw[Qy hlen hAt,Aml]
         rfl
        have hop:(F6 L).map (Mc ⟨size,A4,cx,cy,d0⟩ 0)=L.map Ad.opn:=by
         rw[A5d hlen hAt,Aml]
         exact List.map_congr_left fun u hu=>((HEL.out u hu).1.opn).symm
        refine⟨I1 HRN.out.old (Ai3 _) _ _ _ _ _,.inr ⟨d0,bd,F6 L,G,rfl,rfl,hbd,HMKP.out,⟨gp,cp,gm,cm,k,L.map Ad.path,?_,?_,?_,?_,?_,hn0,hn91,?_⟩,HPW.out,HG.out.1,HG.out.2⟩⟩
        ·rw[hsum,hsum,hsum,<-q1,<-q2,<-q3]
        ·exact Gy (J3 hS (Aku HOB.out)) HRN.out (Ai3 _) (by decide) _ _ _ _ _
        ·rw[hop]
         exact Gy (J3 hM (Aku HOB.out)) HRN.out (Ai3 _) (by decide) _ _ _ _ _
        ·rw[Aml];rfl
        ·unfold F6;rw[Ajp];exact HLN.out
        ·intro s hs;obtain⟨u,hu,rfl⟩:=Aj5.1 hs;have h1:=(Bj (HEL.out u hu).2.pl).2.1;have h2:=(HEL.out u hu).1.at_.deep;have h3:u.path.toList.length=u.path.size:=by rw[toList_data];exact Ajn
         have h4:(Dz (⟨size,A4,cx,cy,d0⟩:Hf)).deep u.path.toList=(d0:Int)+u.path.toList.length:=rfl
         omega
       obtain⟨o0,o1,o2,o3,o4⟩:=HP.out.O.Aa;obtain⟨r0,r1,r2,r3,r4⟩:=HRN.out.Aa;obtain⟨f0,f1,f2,f3,f4⟩:=HRN.out.E7;clear hTK
       go_wp2
       exact Ai6 (v:=.tuple #[.agg #[.slice (some ⟨gp,0,none⟩) k cp,.slice (some ⟨gm,0,none⟩) k cm,.int .i64 x,.int .i64 y,.int .i64 z],.bool true]) (by simp[results,Tryz.f6,go_sem,r0,r1,r2,r3,r4]) rfl HFIN.out
end
end Go.Proofs.YtlfleicchbgcmaaGreat
