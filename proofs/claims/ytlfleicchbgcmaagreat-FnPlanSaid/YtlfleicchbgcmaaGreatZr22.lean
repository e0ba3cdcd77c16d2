import Derived.Test.YtlfleicchbgcmaaGreatZr21
import Derived.Test.YtlfleicchbgcmaaGreatZr0
import Derived.Test.YtlfleicchbgcmaaGreatZrK
set_option linter.all false
set_option maxHeartbeats 16000000
set_option maxRecDepth 100000
namespace Go.Proofs.YtlfleicchbgcmaaGreat
section
open Go.RowKit Go.Sort Flo
theorem RfS.Aic {c:F8}{B:Nat}{w:World}{bd k:Nat}{H D L':List Ae}{hv dv hv':Value}{W W':World}{p:Ae}(h:RfS c B w bd (k+1) H D hv dv W)(hp:(p :: L').Perm H)(hb:∀q,q∈H->Ec q p=false)(hok:Jy Ec L'.length L'.toArray)(hI:Yp w (w.heap.size+1) L' hv' W')(hc:Gb (hpS (w.heap.size+1) hv) W W')(hm:hv'.ownBlock=hv.ownBlock) :
 Mz c p/\Cn B p.t W'/\Below w.heap.size w W' /\(¬(D5 c).sp p.path.toList ->(D5 c).Eu bd [[]] none) /\((D5 c).sp p.path.toList->RfM c B w bd k 0 p.path.toList L' D hv' dv W'):=by
 have hm0:p∈H:=hp.mem_iff.1 (by simp)
 have hL:∀q,q∈L'->q∈H:=fun q hq=>hp.mem_iff.1 (by simp[hq])
 obtain⟨hpick,her⟩:=h.pick hp hb;obtain⟨I',C'⟩:=h.I.Abz hI hc (.inl hm) (fun q hq=>h.I.own q (.inl (hL q hq)))
 refine⟨h.el p (.inl hm0),h.I.A83 C' (h.I.own p (.inl hm0)),h.I.Wo h.Wo C',fun hs=>?_,fun hs=>⟨I',hok,fun q hq=>h.el q (hq.imp_left (hL q)),fun q hq=>h.gh q (hL q hq),h.gd,?_,fun r hr=>?_,h.I.Wo h.Wo C'⟩⟩
 ·obtain⟨r',h1,h2⟩:=h.run _ (.fail k _ _ hpick hs)
  cases r' with
  | none=>exact h1
  | some _=>exact h2.elim
 ·have:=h.num;have:=hp.length_eq;simp only[Aqx]at this
  omega
 ·refine h.run r (.step k _ _ _ r hpick hs ?_ hr)
  rw[List.drop_zero]
  exact Atr.trans (Ast _ her.symm)
theorem RfS.ended {c:F8}{B:Nat}{w:World}{bd k:Nat}{H D:List Ae}{hv dv:Value}{W:World}(h:RfS c B w bd k H D hv dv W)(hz:k=0\/H=[]):∃G,(D5 c).Eu bd [[]] (some G) /\(Fj (D++H)).Perm G:=by
 have h1:(D5 c).Eu k (Fj (H++D)) (some (Fj (H++D))):=by
  rcases hz with rfl|rfl
  ·exact .zero _
  ·refine .stop _ _ fun q hq hg=>?_
   obtain⟨x,hx,rfl⟩:=Aq5.1 hq;have hx:x∈D:=by simpa using hx
   have:=(Tm (h.el x (.inr hx))).1 hg;rw[h.gd x hx]at this
   cases this
 obtain⟨r',h2,h3⟩:=h.run _ h1
 cases r' with
 | none=>exact h3.elim
 | some G=>exact⟨G,h2,(Mn Atr).trans h3⟩
theorem Xe (ps:List UInt8){i:Nat}(hi:i<4):(kids ps).drop i=(ps++[UInt8.ofNat (48+i)]) ::(kids ps).drop (i+1):=by
 rcases(by omega:i=0\/i=1\/i=2\/i=3)with rfl|rfl|rfl|rfl<;>rfl
structure RfQ (c:F8)(B:Nat)(w:World)(bd k i:Nat)(p:Ae)(xb:Nat)(Bq:Nat)(L:List Aj)(g cap:Nat)(H D:List Ae)(hv dv:Value)(W:World):Prop where
 M:RfM c B w bd k i p.path.toList H D hv dv W
 x:A9 w xb (Ah p).toArray 52 W
 xw:w.heap.size<=xb
 ax:¬rfS (w.heap.size+1) (w.heap.size+3) hv dv xb
 q:Ce Bq L (.slice (some ⟨g,0,none⟩) L.length cap) W
theorem RfQ.step {c:F8}{B:Nat}{w:World}{bd k i:Nat}{p:Ae}{xb Bq:Nat}{L:List Aj}{g cap:Nat}{H D:List Ae}{hv dv:Value}{W W':World}(h:RfQ c B w bd k i p xb Bq L g cap H D hv dv W)(b:Below W.heap.size W W'):RfQ c B w bd k i p xb Bq L g cap H D hv dv W' :=
 ⟨h.M.step b,h.x.step b,h.xw,h.ax,h.q.step b⟩
theorem RfQ.next {c:F8}{B:Nat}{w:World}{bd k i:Nat}{p:Ae}{xb Bq:Nat}{L:List Aj}{g cap:Nat}{H D:List Ae}{hv dv:Value}{W W':World}{u:Aj}{path:ByteArray}(h:RfQ c B w bd k i p xb Bq L g cap H D hv dv W)(hi:i<4)
 (hp:K0 B w (w.heap.size+2) (w.heap.size+3) (w.heap.size+1) H D hv dv ⟨u,path,(cnt 0 u.ys:Nat)⟩ W W') (he:J7 c (p.path.toList++[UInt8.ofNat (48+i)]) u) (hpath:path.toList=p.path.toList++[UInt8.ofNat (48+i)]) :
 ∃H' D' hv' dv',RfQ c B w bd k (i+1) p xb Bq L g cap H' D' hv' dv' W':=by
 obtain⟨H',D',hv',dv',hM,hC,m1,m2⟩:=h.M.next hp (⟨by rw[hpath];exact he,rfl⟩:Mz c ⟨u,path,(cnt 0 u.ys:Nat)⟩) (by rw[Xe _ hi];exact congrArg (· :: _) hpath.symm)
 have hlt:=h.x.lt
 refine⟨H',D',hv',dv',hM,hC.box h.x h.ax h.M.I.low,h.xw,?_,⟨hC.owns h.q.row fun b hb hs=>?_,fun t ht=>h.M.I.A83 hC (h.q.own t ht)⟩⟩
 ·rintro(e|e|e|e)
  ·exact h.ax (.inl e)
  ·exact h.ax (.inr (.inl e))
  ·rcases m1 with m |⟨g,m,hg⟩
   ·exact h.ax (.inr (.inr (.inl (m▸e))))
   ·rw[m]at e;injection e with e
    omega
  ·rcases m2 with m |⟨g,m,hg⟩
   ·exact h.ax (.inr (.inr (.inr (m▸e))))
   ·rw[m]at e;injection e with e
    omega
 ·obtain⟨_,C,hc⟩:=Cu h.q.row hb
  exact h.M.I.aside hc (by decide) hs
theorem RfQ.first {c:F8}{B:Nat}{w:World}{bd k:Nat}{p:Ae}{L:List Aj}{g cap:Nat}{H D:List Ae}{hv dv:Value}{W W':World}(h:RfM c B w bd k 0 p.path.toList H D hv dv W){C:Array Value}(hC:C=(Ah p).toArray)(b:Below (W.heap.size+1) (W.alloc (.cells C 52)) W')(hq:Ce (W.heap.size+1) L (.slice (some ⟨g,0,none⟩) L.length cap) W') :
 RfQ c B w bd k 0 p W.heap.size (W.heap.size+1) L g cap H D hv dv W':=by
 subst hC;have b':Below (W.alloc (.cells (Ah p).toArray 52)).heap.size (W.alloc (.cells (Ah p).toArray 52)) W':=by rw[Apl];exact b
 have X:=((A9.new W (Ah p).toArray 52).up h.Wo).step b'
 refine⟨h.step (((Aph _ _).alloc (Ap0 _) _).trans (b'.mono (by simp))),X,h.Wo.size,fun hs=>?_,hq⟩
 have:=h.I.lt hs
 omega
end
section
open Go.RowKit Go.Sort Flo
def Sn (c:F8)(B bd:Nat)(w:World)(e:Ending)(w':World):Prop :=
 Below w.heap.size w w' /\((e=.returned (.tuple #[.slice none 0 0,.bool false]) /\(D5 c).Eu bd [[]] none) \/
  ∃(g cap n:Nat) (L:List Ae) (G:List (List UInt8)),e=.returned (.tuple #[.slice (some ⟨g,0,none⟩) n cap,.bool true])/\L.length=n/\n<=1+3*bd/\0<n/\w'.ownsRow w.heap.size 52 7 (.slice (some ⟨g,0,none⟩) n cap) n (Ap L) /\
   (∀p,p∈L->Mz c p/\Cn B p.t w') /\(Fj L).Pairwise (fun a b=>Op.bytesLess b a=false) /\(D5 c).Eu bd [[]] (some G) /\(Fj L).Perm G)
theorem Jp {W:World}{B B' n size:Nat}{e:TypeId}{v:Value}{xs:List Value}(h:W.ownsRow B e size v n xs)(hB:B'<=B):W.ownsRow B' e size v n xs:=by
 refine⟨h.1,?_⟩
 rcases h.2 with hl |⟨g,cap,cur,rfl,h2,h3⟩
 ·exact .inl hl
 ·exact .inr ⟨g,cap,cur,rfl,by omega,h3⟩
theorem A7o {c:F8}{B:Nat}{w:World}{bd k:Nat}{H D L':List Ae}{hv dv:Value}{W W3 W4:World}{g cap n:Nat}(h:RfS c B w bd k H D hv dv W)(hz:k=0\/H=[])(hk:k<=bd)(b:Below W.heap.size W W3)(hn:D.length+H.length=n)
 (ho:W3.ownsRow W.heap.size 52 7 (.slice (some ⟨g,0,none⟩) n cap) n (Ap (D++H))) (hp:L'.Perm (D++H)) (hl:L'.length=n) (hs:∀i j,i<j->j<n->Op.bytesLess (L'.toArray[j]!).path.toList (L'.toArray[i]!).path.toList=false)
 (ho4:W4.ownsRow W.heap.size 52 7 (.slice (some ⟨g,0,none⟩) n cap) n (Ap L')) (hO:C7 g W3 W4):Sn c B bd w (.returned (.tuple #[.slice (some ⟨g,0,none⟩) n cap,.bool true])) W4:=by
 obtain⟨G,hG,hGp⟩:=h.ended hz;obtain⟨hg,C,hc⟩:=Cu ho (k:=g) rfl;have hC:Gb (fun k=>k=g) W3 W4:=Gb.A7h hO rfl
 have hnum:=h.num
 refine⟨(h.Wo.trans (b.mono h.Wo.size)).trans (hC.below _ (Ap3 h.Wo.size b.size) fun k hk=>hk▸Ap3 h.Wo.size hg),.inr ⟨g,cap,n,L',G,rfl,hl,by omega,by omega,Jp ho4 h.Wo.size,fun p hpp=>?_,?_,hG,?_⟩⟩
 ·have hm:p∈H\/p∈D:=by
   rcases Aq9.1 (hp.mem_iff.1 hpp)with h|h
   ·exact .inr h
   ·exact .inl h
  refine⟨h.el p hm,((h.I.own p hm).step b).chg hC fun b' C' T hb hT hbg=>?_⟩
  subst hbg;rw[hb]at hc;injection hc with hc
  injection hc with _ hc
  subst hc
  rcases hT with h|h<;>exact absurd h (by decide)
 ·unfold Fj;rw[List.pairwise_map,List.pairwise_iff_getElem];intro i j hi hj hij;have:=hs i j hij (by omega)
  rwa [As7 L'.toArray j (by simpa using hj),As7 L'.toArray i (by simpa using hi),List.getElem_toArray,List.getElem_toArray]at this
 ·exact(Mn hp).trans hGp
end
section
open Go.RowKit Go.Sort Flo
attribute [local go_sem ↓] Go.wp_at_zero Go.wp_at_succ
attribute [local go_sem] A7 A5
theorem Afh (hb n c:Nat)(a:Option Addr)(w:World)(c0:w.cell? ⟨hb,0,none⟩=some (.slice a n c)):Calls Vp.prog 38 #[.pointer (some ⟨hb,0,none⟩)] w fun e w'=>e=.returned (.int .i64 n)/\w'=w:=by
 go_enter Vp.func38,Tryz.ntmps38
 go_wp2
 go_ret
 exact⟨rfl,rfl⟩
theorem A9o (c:F8)(B bd:Nat)(t:Aj)(hbd:bd<=30)(w:World)(hB:B<=w.heap.size)(ho:Cn B t w)(he:J7 c [] t) :
 Calls Vp.prog 16 #[.agg t.cells.toArray,.int .i64 c.A4,.int .i64 bd] w (Sn c B bd w):=by
 have e1:t.cells.toArray=#[.complex .f32 t.cx t.cy,.int .i64 t.deep,.int .i64 t.size,.slice (some ⟨t.gs,0,none⟩) t.n t.cs,.slice (some ⟨t.gm,0,none⟩) t.n t.cm]:=rfl;rw[e1];obtain⟨hI,hF⟩:=Ad9 B w (.complex .f32 t.cx t.cy) (.int .i64 t.deep) (.int .i64 t.size) (.slice (some ⟨t.gs,0,none⟩) t.n t.cs) (.slice (some ⟨t.gm,0,none⟩) t.n t.cm);have HB0:=Aoy hB;have HI:=Aoy hI;have HF:=Aoy hF;have HT:=Aoy (ho.step hF.old);have HE:=Aoy he;clear hI hF ho he hB
 go_enter Vp.func16,Tryz.ntmps16
 go_upto_region 4 with fail
 simp only[rfW]at HI HF HT;generalize (((w.alloc (.cells #[.complex .f32 t.cx t.cy,.int .i64 t.deep,.int .i64 t.size,.slice (some ⟨t.gs,0,none⟩) t.n t.cs,.slice (some ⟨t.gm,0,none⟩) t.n t.cm] 35)).alloc (.cells #[.slice none 0 0,.func (.func 34) #[] #[]] 82)).alloc (.cells #[.pointer (some ⟨w.heap.size+1,0,none⟩)] 79)).alloc (.cells #[.slice none 0 0] 48)=w1 at *;obtain⟨x0,x1,x2,x3,x4⟩:=HF.out.Ad;have CA:=Aoy (Wn t ⟨#[]⟩ B w1 HT.out);rw[e1]at CA;have hq:w.heap.size+1+1=w.heap.size+2:=rfl;have hq2:w.heap.size+1+1+1=w.heap.size+3:=rfl;rw[hq2,hq]
 go_wp2_with fail
 refine CA.out.mono ?_
 rintro e w2 ⟨rfl,hb2⟩;obtain⟨p0,hp0⟩:∃p0:Ae,p0=⟨t,⟨#[]⟩,(cnt 0 t.ys:Nat)⟩:=⟨_,rfl⟩;rw[<-hp0]
 have HE0:Hid (Mz c p0/\p0.path.toList=[]/\Cn B p0.t w2):=by
  have hnil:(⟨#[]⟩:ByteArray).toList=[]:=by rw[toList_data]
  subst hp0
  refine⟨⟨?_,rfl⟩,hnil,HT.out.step hb2⟩
  show J7 c (⟨#[]⟩:ByteArray).toList t
  rw[hnil]
  exact HE.out
 have HI2:=Aoy (HI.out.step hb2);have HB2:=Aoy (HF.out.step hb2).old;have CP:=Aoy (A2z B w (w.heap.size+2) (w.heap.size+3) (w.heap.size+1) [] [] (.slice none 0 0) (.slice none 0 0) p0 (by simp) (by simp) (fun k _ h=>by simp at h) w2 HI2.out HE0.out.2.2)
 clear CA hb2 HI HF HT HE x0 x1 x2 x3 x4 hp0;generalize (Ah p0).toArray=cp at *
 go_wp2_with fail
 refine CP.out.mono ?_
 rintro e w3 ⟨rfl,hpl⟩;have hx:∃H' D' hv' dv',Hid (RfS c B w bd bd H' D' hv' dv' w3):=RfS.first (H:=[]) (D:=[]) HI2.out HB2.out hpl HE0.out.1 HE0.out.2.1 rfl rfl;clear CP HI2 HB2 HE0 hpl e1;obtain⟨H0,D0,hv0,dv0,HS0⟩:=hx;generalize hrb:w.heap.size+2=rb at *;generalize hdb:w.heap.size+3=db at *;generalize hhb:w.heap.size+1=hb at *
 go_wp2
 go_loopw [2] (fun kv wr=>∃(k:Nat) (H D:List Ae) (hv dv:Value),k<=bd/\kv=.int .i64 k/\Hid (RfS c B w bd k H D hv dv wr)) (fun kv _=>(intOf kv).toNat)
 case atStart=>exact⟨bd,H0,D0,hv0,dv0,Ap0 _,rfl,HS0.out⟩
 case round =>
  clear HS0;obtain⟨k,H,D,hv,dv,hk,rfl,HS⟩:=hrel;have hnum:=HS.out.num
  rcases Aqq k with rfl|hk0
  ·obtain⟨wo,rfl⟩:∃wo,wo=wr:=⟨_,rfl⟩;have c0:wo.cell? ⟨db,0,none⟩=some dv:=by have:=HS.out.I.Pv.cell 0 _ rfl;rwa [hdb]at this
   have c1:wo.cell? ⟨rb,0,none⟩=some (.pointer (some ⟨hb,0,none⟩)):=by have:=HS.out.I.A35.cell 0 _ rfl;rwa [hrb,hhb]at this
   have c2:wo.cell? ⟨hb,0,none⟩=some hv:=by have:=HS.out.I.heap.box.cell 0 _ rfl;rwa [hhb]at this
   have f0:¬((0:Int)<0):=by omega
   go_upto_region 16 with fail
   obtain⟨a1,a2,hdv⟩:=Gm HS.out.I.Pw;obtain⟨m1,m2,hhv⟩:=Gm HS.out.I.heap.row;obtain⟨n,hn⟩:∃n,D.length+H.length=n:=⟨_,rfl⟩;rw[hdv]at c0;rw[hhv]at c2;have hn0:0<n:=by omega
   have HCC:Hid (Calls Vp.prog 40 #[.slice (some ⟨wo.heap.size,0,none⟩) 2 2] ((wo.alloc (.cells #[.slice a1 D.length a2,.slice m1 H.length m2] 48)).drew) (fun e w'=>∃g cap,e=.returned (.slice (some ⟨g,0,none⟩) n cap)/\Hid (w'.ownsRow wo.heap.size 52 7 (.slice (some ⟨g,0,none⟩) n cap) n (Ap (D++H)))/\Hid (Below wo.heap.size wo w')/\w'.cell? ⟨db,0,none⟩=some (.slice a1 D.length a2)/\w'.cell? ⟨rb,0,none⟩=some (.pointer (some ⟨hb,0,none⟩))/\w'.cell? ⟨hb,0,none⟩=some (.slice m1 H.length m2))):=by
    have X:=(A9.new wo #[.slice a1 D.length a2,.slice m1 H.length m2] 48).step ((Au.refl _).drew.below _);have h:=Wu wo.heap.size 2 D H (.slice a1 D.length a2) (.slice m1 H.length m2) (by omega) (by omega) _ (X.cell 0 _ rfl) (X.cell 1 _ rfl) w.heap.size (by have:=HS.out.I.Pw;rw[hdv]at this;exact Ab this X.old) (by have:=HS.out.I.heap.row;rw[hhv]at this;exact Ab this X.old)
    refine h.mono ?_
    rintro e w' ⟨v,rfl,ho,hb'⟩;rw[hn]at ho;obtain⟨g,cap,rfl,-,-⟩:=ownsRow_form ho hn0;have hb2:Below wo.heap.size wo w':=X.old.trans (hb'.mono X.old.size)
    exact⟨g,cap,rfl,Jp ho X.old.size,hb2,(hb2.cell (Apw wo _ c0)).trans c0,(hb2.cell (Apw wo _ c1)).trans c1,(hb2.cell (Apw wo _ c2)).trans c2⟩
   have HEND:Hid (∀w3 g cap,Below wo.heap.size wo w3->w3.ownsRow wo.heap.size 52 7 (.slice (some ⟨g,0,none⟩) n cap) n (Ap (D++H))->Calls Vp.prog 41 #[.slice (some ⟨g,0,none⟩) n cap,.func (.func 42) #[] #[]] w3 fun e w'=>e=.returned (.tuple #[])/\Hid (Sn c B bd w (.returned (.tuple #[.slice (some ⟨g,0,none⟩) n cap,.bool true])) w')):=fun w3 g cap hb' ho=>by
    refine(A7u wo.heap.size g cap n (D++H) (by rw[Apz];exact hn) (by omega) w3 ho).mono ?_
    rintro e w' ⟨rfl,L',hp,hl,hs,ho4,hO⟩
    exact⟨rfl,A7o HS.out (.inl rfl) (by omega) hb' hn ho hp hl hs ho4 hO⟩
   generalize D.length=nd at *;generalize H.length=nh at *;clear hdv hhv HS hnum hn hn0
   go_region_held3 (fun w'=>w'.cell? ⟨db,0,none⟩=some (.slice a1 nd a2)/\w'.cell? ⟨rb,0,none⟩=some (.pointer (some ⟨hb,0,none⟩))/\w'.cell? ⟨hb,0,none⟩=some (.slice m1 nh m2)) (go_keep) (first
    |(go_at_call 40;(with_reducible refine HCC.out.mono ?_);rintro e w' ⟨g,cap,rfl,ho,hb',s1,s2,s3⟩))
   go_wp2_with fail
   refine(HEND.out _ _ _ hb'.out ho.out).mono ?_
   rintro e w8 ⟨rfl,hr⟩;clear HCC HEND ho hb' s1 s2 s3 c0 c1 c2
   go_wp2
   exact Ap4 (v:=.tuple #[.slice (some ⟨g,0,none⟩) n cap,.bool true]) (by simp[results,Tryz.f16,go_sem]) rfl hr.out
  ·obtain⟨k1,rfl⟩:∃k1,k=k1+1:=⟨k-1,by omega⟩
   have r0:wr.cell? ⟨rb,0,none⟩=some (.pointer (some ⟨hb,0,none⟩)):=by
    have:=HS.out.I.A35.cell 0 _ rfl;rw[hrb,hhb]at this
    exact this
   have f0:decide ((0:Int) <((k1+1:Nat):Int))=true:=Apj (by omega)
   obtain⟨la,lc,hlv⟩:=Gm HS.out.I.heap.row
   have CL:=Aoy (Afh hb H.length lc la wr (by
    have:=HS.out.I.heap.box.cell 0 _ rfl;rw[hhb]at this
    exact this.trans (congrArg some hlv)))
   rcases Aqq H.length with hz|hz
   ·have hH:H=[]:=List.length_eq_zero_iff.1 hz;obtain⟨wo,rfl⟩:∃wo,wo=wr:=⟨_,rfl⟩;have c0:wo.cell? ⟨db,0,none⟩=some dv:=by have:=HS.out.I.Pv.cell 0 _ rfl;rwa [hdb]at this
    have c1:wo.cell? ⟨rb,0,none⟩=some (.pointer (some ⟨hb,0,none⟩)):=r0;have c2:wo.cell? ⟨hb,0,none⟩=some hv:=by have:=HS.out.I.heap.box.cell 0 _ rfl;rwa [hhb]at this
    clear r0 hlv;have f1:decide ((0:Int) <(H.length:Int))=false:=Apy (by omega)
    go_wp2_with fail
    refine CL.out.mono ?_
    rintro e w4 ⟨rfl,hw4⟩;replace hw4:=hw4.symm;subst hw4;clear CL
    go_upto_region 16 with fail
    obtain⟨a1,a2,hdv⟩:=Gm HS.out.I.Pw;obtain⟨m1,m2,hhv⟩:=Gm HS.out.I.heap.row;obtain⟨n,hn⟩:∃n,D.length+H.length=n:=⟨_,rfl⟩;rw[hdv]at c0;rw[hhv]at c2;have hn0:0<n:=by omega
    have HCC:Hid (Calls Vp.prog 40 #[.slice (some ⟨wo.heap.size,0,none⟩) 2 2] ((wo.alloc (.cells #[.slice a1 D.length a2,.slice m1 H.length m2] 48)).drew) (fun e w'=>∃g cap,e=.returned (.slice (some ⟨g,0,none⟩) n cap)/\Hid (w'.ownsRow wo.heap.size 52 7 (.slice (some ⟨g,0,none⟩) n cap) n (Ap (D++H)))/\Hid (Below wo.heap.size wo w')/\w'.cell? ⟨db,0,none⟩=some (.slice a1 D.length a2)/\w'.cell? ⟨rb,0,none⟩=some (.pointer (some ⟨hb,0,none⟩))/\w'.cell? ⟨hb,0,none⟩=some (.slice m1 H.length m2))):=by
     have X:=(A9.new wo #[.slice a1 D.length a2,.slice m1 H.length m2] 48).step ((Au.refl _).drew.below _);have h:=Wu wo.heap.size 2 D H (.slice a1 D.length a2) (.slice m1 H.length m2) (by omega) (by omega) _ (X.cell 0 _ rfl) (X.cell 1 _ rfl) w.heap.size (by have:=HS.out.I.Pw;rw[hdv]at this;exact Ab this X.old) (by have:=HS.out.I.heap.row;rw[hhv]at this;exact Ab this X.old)
     refine h.mono ?_
     rintro e w' ⟨v,rfl,ho,hb'⟩;rw[hn]at ho;obtain⟨g,cap,rfl,-,-⟩:=ownsRow_form ho hn0;have hb2:Below wo.heap.size wo w':=X.old.trans (hb'.mono X.old.size)
     exact⟨g,cap,rfl,Jp ho X.old.size,hb2,(hb2.cell (Apw wo _ c0)).trans c0,(hb2.cell (Apw wo _ c1)).trans c1,(hb2.cell (Apw wo _ c2)).trans c2⟩
    have HEND:Hid (∀w3 g cap,Below wo.heap.size wo w3->w3.ownsRow wo.heap.size 52 7 (.slice (some ⟨g,0,none⟩) n cap) n (Ap (D++H))->Calls Vp.prog 41 #[.slice (some ⟨g,0,none⟩) n cap,.func (.func 42) #[] #[]] w3 fun e w'=>e=.returned (.tuple #[])/\Hid (Sn c B bd w (.returned (.tuple #[.slice (some ⟨g,0,none⟩) n cap,.bool true])) w')):=fun w3 g cap hb' ho=>by
     refine(A7u wo.heap.size g cap n (D++H) (by rw[Apz];exact hn) (by omega) w3 ho).mono ?_
     rintro e w' ⟨rfl,L',hp,hl,hs,ho4,hO⟩
     exact⟨rfl,A7o HS.out (.inr hH) (by omega) hb' hn ho hp hl hs ho4 hO⟩
    generalize D.length=nd at *;generalize H.length=nh at *;clear hdv hhv HS hnum hn hn0 hz hH f1
    go_region_held3 (fun w'=>w'.cell? ⟨db,0,none⟩=some (.slice a1 nd a2)/\w'.cell? ⟨rb,0,none⟩=some (.pointer (some ⟨hb,0,none⟩))/\w'.cell? ⟨hb,0,none⟩=some (.slice m1 nh m2)) (go_keep) (first
     |(go_at_call 40;(with_reducible refine HCC.out.mono ?_);rintro e w' ⟨g,cap,rfl,ho,hb',s1,s2,s3⟩))
    go_wp2_with fail
    refine(HEND.out _ _ _ hb'.out ho.out).mono ?_
    rintro e w8 ⟨rfl,hr⟩;clear HCC HEND ho hb' s1 s2 s3 c0 c1 c2
    go_wp2
    exact Ap4 (v:=.tuple #[.slice (some ⟨g,0,none⟩) n cap,.bool true]) (by simp[results,Tryz.f16,go_sem]) rfl hr.out
   ·obtain⟨m,hm⟩:∃m,H.length=m+1:=⟨H.length-1,by omega⟩
    have f1:decide ((0:Int) <(H.length:Int))=true:=Apj (by omega)
    have CP:=Aoy (A4x w hb m H hv hm (by omega) HS.out.ok wr (by have:=HS.out.I.heap;rwa [hhb]at this))
    have wr1:IntKind.i64.wrap (((k1+1:Nat):Int)-1)=(k1:Int):=by
     rw[show((k1+1:Nat):Int)-1=(k1:Int) by omega]
     exact Aq4 _ (by omega)
    have ta:=fun(v:Value) (w:World)=>Ss (P:=Vp.prog) (x:=20) (Vp.Dw Tryz.underlying52) v w
    clear hlv
    go_wp2_with fail
    refine CL.out.mono ?_
    rintro e w4 ⟨rfl,rfl⟩;clear CL hz
    go_wp2_with fail
    refine CP.out.mono ?_
    rintro e w5 ⟨p,L',hv',rfl,hperm,hbest,hok',hI',hc',hm'⟩;obtain⟨hel,hown,hbel,hno,hyes⟩:=HS.out.Aic hperm hbest hok' (by rw[hhb];exact hI') (by rw[hhb];exact hc') hm'
    have e2:(Ah p).toArray=#[.complex .f32 p.t.cx p.t.cy,.int .i64 p.t.deep,.int .i64 p.t.size,.slice (some ⟨p.t.gs,0,none⟩) p.t.n p.t.cs,.slice (some ⟨p.t.gm,0,none⟩) p.t.n p.t.cm,.string p.path,.int .i64 p.opn]:=rfl;have HEL:=Aoy hel;have HOWN:=Aoy hown;have HNO:=Aoy hno;have HBEL:=Aoy hbel;have HYES:=Aoy hyes;have X:=A9.new w5 (Ah p).toArray 52;have HX:=Aoy X;rw[e2]at X ⊢;obtain⟨x0,x1,x2,x3,x4,x5,x6⟩:=X.D7;obtain⟨dp,hdp,hsp⟩:=A53 c.A4 p.t B (w5.alloc (.cells #[.complex .f32 p.t.cx p.t.cy,.int .i64 p.t.deep,.int .i64 p.t.size,.slice (some ⟨p.t.gs,0,none⟩) p.t.n p.t.cs,.slice (some ⟨p.t.gm,0,none⟩) p.t.n p.t.cm,.string p.path,.int .i64 p.opn] 52)) (HOWN.out.step X.old) HEL.out.at_.Ca;have HSP:Hid (Calls Vp.prog 26 #[.agg #[.complex .f32 p.t.cx p.t.cy,.int .i64 p.t.deep,.int .i64 p.t.size,.slice (some ⟨p.t.gs,0,none⟩) p.t.n p.t.cs,.slice (some ⟨p.t.gm,0,none⟩) p.t.n p.t.cm],.int .i64 c.A4] _ (Lc _ p.t.cx p.t.cy dp p.t.size c.A4)):=hsp;have HDP:=Aoy hdp;clear hel hown hbel hno hyes X hsp hdp hperm hbest hok' hI' hc' hm' CP HS hnum r0 f0 f1
    go_wp2_with fail
    refine HSP.out.mono ?_
    rintro e w6 ⟨⟨a0,c0,rfl,k',hk',hnp⟩ |⟨L,v,rfl,hL,hLl,hLt⟩,hb6⟩
    ·have HR:Hid (Sn c B bd w (.returned (.tuple #[.slice none 0 0,.bool false])) w6):=by
      refine⟨HBEL.out.trans (((HX.out.old.mono HBEL.out.size)).trans ?_),.inl ⟨rfl,HNO.out fun hs=>hnp ?_⟩⟩
      ·have h:=hb6.mono (B':=w.heap.size) (by rw[Apl];exact Nat.le_succ_of_le HBEL.out.size)
       rw[e2]
       exact h
      ·have:=(HEL.out.at_.sp HDP.out).1 hs k' hk'
       rwa [<-HEL.out.at_.size]at this
     clear hnp hb6 HSP x0 x1 x2 x3 x4 x5 x6 HX e2
     go_wp2
     exact Ap4 (v:=.tuple #[.slice none 0 0,.bool false]) (by simp[results,Tryz.f16,go_sem]) rfl HR.out
    ·have hform:=ownsRow_form hL.row (by omega)
     obtain⟨g,cap,rfl,-,hcap⟩:=hform;have hszz:p.t.size=c.s:=HEL.out.at_.size;rw[hszz]at hLt
     have HSPL:Hid (L9 p.t.cx p.t.cy dp c.s):=fun j hj=>by
      obtain⟨u,hu⟩:∃u,L[j]?=some u:=⟨_,Apd (by omega)⟩
      obtain⟨q1,q2,q3,q4,q5⟩:=hLt j u hu;obtain⟨a1,a2,a3,a4,b1,b2,b3,-,-⟩:=q5;have hm:Wi u.cx u.cy u.deep u.size:=⟨a1,a2,a3,a4,b1,b2,b3⟩;rw[q1,q2,q3,q4]at hm
      exact hm
     have HQ:Hid (RfQ c B w bd k1 0 p w5.heap.size (w5.heap.size+1) L g cap L' D hv' dv w6):=RfQ.first (HYES.out ((HEL.out.at_.sp HDP.out).2 HSPL.out)) e2.symm (by rwa [Apl]at hb6) (by rwa [Apl]at hL)
     have HKID:Hid (∀j u,L[j]?=some u->j<4->J7 c (p.path.toList++[UInt8.ofNat (48+j)]) u):=fun j u hu hj=>by
      obtain⟨q1,q2,q3,q4,q5⟩:=hLt j u hu
      exact HEL.out.at_.kid HDP.out HSPL.out hj q1 q2 q3 q4 q5
     have HLN:=Aoy hLl;have HB5:Hid (w.heap.size<=w5.heap.size):=HBEL.out.size
     have HPZ:Hid (p.path.size<=10):=by
      have h1:=(Bs HOWN.out.pl).2.1;have h2:=HEL.out.at_.deep;have h3:p.path.toList.length=p.path.size:=by rw[toList_data];exact Aqw
      have h4:(D5 c).deep p.path.toList=(c.d0:Int)+p.path.toList.length:=rfl
      exact(show p.path.size<=10 by omega)
     rw[hLl]at hcap ⊢;clear hL hLl hLt hb6 hszz HSP x0 x1 x2 x3 x4 x5 x6 HX HYES HNO HBEL HOWN HSPL HDP e2;generalize w5.heap.size=xb at *
     go_wp2
     go_loopw [48] (fun iv wr=>∃(i:Nat) (H D:List Ae) (hv dv:Value),i<=4/\iv=.int .i64 i/\Hid (RfQ c B w bd k1 i p xb (xb+1) L g cap H D hv dv wr)) (fun iv _=>(4-intOf iv).toNat)
     case atStart=>exact⟨0,L',D,hv',dv,by omega,rfl,HQ⟩
     case round =>
      clear HQ;obtain⟨i,H1,D1,hv1,dv1,hi,rfl,HQ⟩:=hrel;obtain⟨wo,rfl⟩:∃wo,wo=wr:=⟨_,rfl⟩
      by_cases hlt:i<4
      ·obtain⟨u,hu⟩:∃u,L[i]?=some u:=⟨_,Apd (by have:=HLN.out;omega)⟩
       have HKU:Hid (J7 c (p.path.toList++[UInt8.ofNat (48+i)]) u):=HKID.out i u hu hlt;obtain⟨y0,y1,y2,y3,y4⟩:=HQ.out.q.cells hu;have HU:=Aoy (HQ.out.q.own u (Aq7 hu));have HXP:=Aoy (HQ.out.x.cell 5 (.string p.path) rfl);clear hu;obtain⟨cb,hcb⟩:∃cb:UInt8,cb=UInt8.ofNat (48+i):=⟨_,rfl⟩
       have se:(⟨#[48,49,50,51]⟩:ByteArray).extract i (i+1)=⟨#[cb]⟩:=by
        rw[hcb]
        rcases(by omega:i=0\/i=1\/i=2\/i=3)with rfl|rfl|rfl|rfl<;>rfl
       have b5:(i:Int)<4:=by omega
       have b6:(0:Int)<=i:=by omega
       have sl:∀W:World,Sem.run Vp.prog (Instr.slice 9 (.string ⟨#[48,49,50,51]⟩) (some (.int .i64 (i:Int))) (some (.int .i64 ((i:Int)+1))) none) W=.ok (.string ⟨#[cb]⟩) W:=fun W=>by
        rw[run_slice_string_if (P:=Vp.prog) (w:=W) 9 ⟨#[48,49,50,51]⟩ .i64 .i64 (i:Int) ((i:Int)+1) (Vp.Dw Tryz.underlying9),Apb ⟨by omega,by show(i:Int)+1<=4;omega⟩,Apb ⟨by omega,by omega⟩,show((i:Int)+1).toNat=i+1 by omega,Aqk,se]
       have wq:IntKind.i64.wrap ((i:Int)+1)=(i:Int)+1:=Aq4 _ (by omega)
       obtain⟨path,hpath⟩:∃path,p.path ++(⟨#[cb]⟩:ByteArray)=path:=⟨_,rfl⟩;have A0:=fun W:World=>Aug (P:=Vp.prog) W p.path ⟨#[cb]⟩ (by have:=HPZ.out;show p.path.size+1<=_;omega)
       have hpt:path.toList=p.path.toList++[UInt8.ofNat (48+i)]:=by
        rw[<-hpath,toList_data,toList_data,ByteArray.data_append];rw[<-hcb];simp
       have HPT:=Aoy hpt;rw[hpath]at A0;clear hpt;clear hpath hcb se
       go_upto_region 14 with fail
       have X15:=A9.new wo #[.complex .f32 u.cx u.cy,.int .i64 u.deep,.int .i64 u.size,.slice (some ⟨u.gs,0,none⟩) u.n u.cs,.slice (some ⟨u.gm,0,none⟩) u.n u.cm] 35;have HW0:=Aoy (And.intro (HQ.out.step X15.old) (And.intro X15 (HU.out.step X15.old)));generalize wo.alloc (.cells #[.complex .f32 u.cx u.cy,.int .i64 u.deep,.int .i64 u.size,.slice (some ⟨u.gs,0,none⟩) u.n u.cs,.slice (some ⟨u.gm,0,none⟩) u.n u.cm] 35)=W at *
       have HKK:Hid (∀W',Below W.drew.heap.size W.drew W'->RfQ c B w bd k1 i p xb (xb+1) L g cap H1 D1 hv1 dv1 W'/\A9 wo wo.heap.size #[.complex .f32 u.cx u.cy,.int .i64 u.deep,.int .i64 u.size,.slice (some ⟨u.gs,0,none⟩) u.n u.cs,.slice (some ⟨u.gm,0,none⟩) u.n u.cm] 35 W'/\Cn (xb+1) u W'):=fun W' h=>by
        have h2:Below W.heap.size W W':=((Au.refl W).drew.below _).trans h
        exact⟨HW0.out.1.step h2,HW0.out.2.1.step h2,HW0.out.2.2.step h2⟩
       have HSS:Hid (∀W',Below W.drew.heap.size W.drew W'->W'.cell? ⟨wo.heap.size,0,none⟩=some (.complex .f32 u.cx u.cy)/\W'.cell? ⟨wo.heap.size,1,none⟩=some (.int .i64 u.deep)/\W'.cell? ⟨wo.heap.size,2,none⟩=some (.int .i64 u.size)/\W'.cell? ⟨wo.heap.size,3,none⟩=some (.slice (some ⟨u.gs,0,none⟩) u.n u.cs)/\W'.cell? ⟨wo.heap.size,4,none⟩=some (.slice (some ⟨u.gm,0,none⟩) u.n u.cm)/\W'.cell? ⟨xb,5,none⟩=some (.string p.path)):=fun W' h=>by
        obtain⟨k1,k2,k3⟩:=HKK.out W' h;obtain⟨z0,z1,z2,z3,z4⟩:=k2.Ad
        exact⟨z0,z1,z2,z3,z4,k1.x.cell 5 _ rfl⟩
       have HCA:Hid (∀W',Below W.drew.heap.size W.drew W'->Calls Vp.prog 37 #[.agg #[.complex .f32 u.cx u.cy,.int .i64 u.deep,.int .i64 u.size,.slice (some ⟨u.gs,0,none⟩) u.n u.cs,.slice (some ⟨u.gm,0,none⟩) u.n u.cm],.string path] W' fun e w'=>e=.returned (.agg (Ah ⟨u,path,(cnt 0 u.ys:Nat)⟩).toArray)/\Below W'.heap.size W' w'):=fun W' h=>Wn u path (xb+1) W' (HKK.out W' h).2.2
       have HCP:Hid (∀W',Below W.drew.heap.size W.drew W'->Calls Vp.prog 35 #[.agg (Ah ⟨u,path,(cnt 0 u.ys:Nat)⟩).toArray,.pointer (some ⟨rb,0,none⟩),.pointer (some ⟨db,0,none⟩)] W' fun e w'=>e=.returned (.tuple #[])/\Hid (w'.cell? ⟨wo.heap.size,0,none⟩=some (.complex .f32 u.cx u.cy)/\w'.cell? ⟨wo.heap.size,1,none⟩=some (.int .i64 u.deep)/\w'.cell? ⟨wo.heap.size,2,none⟩=some (.int .i64 u.size)/\w'.cell? ⟨wo.heap.size,3,none⟩=some (.slice (some ⟨u.gs,0,none⟩) u.n u.cs)/\w'.cell? ⟨wo.heap.size,4,none⟩=some (.slice (some ⟨u.gm,0,none⟩) u.n u.cm)/\w'.cell? ⟨xb,5,none⟩=some (.string p.path))/\∃H' D' hv' dv',Hid (RfQ c B w bd k1 (i+1) p xb (xb+1) L g cap H' D' hv' dv' w')):=fun W' h=>by
        have k1:=(HKK.out W' h).1;have hn:=k1.M.num;have hpl:=A2z B w (w.heap.size+2) (w.heap.size+3) (w.heap.size+1) H1 D1 hv1 dv1 ⟨u,path,(cnt 0 u.ys:Nat)⟩ (by omega) (by omega) k1.M.ok W' k1.M.I ((HKK.out W' h).2.2.mono (Nat.le_succ_of_le (Ap3 HB0.out HB5.out)))
        rw[hrb,hdb]at hpl
        refine hpl.mono ?_
        rintro e w' ⟨rfl,hpp⟩;rw[<-hrb,<-hdb]at hpp;obtain⟨H',D',hv',dv',hh⟩:=k1.next (by omega) hpp HKU.out HPT.out
        refine⟨rfl,?_,H',D',hv',dv',hh⟩
        obtain⟨_,_,_,_,_,_,hC,_⟩:=hpp;have k2:=(HKK.out W' h).2.1;have k3:=hC.box (⟨k2.blk,k1.M.Wo⟩:A9 w wo.heap.size #[.complex .f32 u.cx u.cy,.int .i64 u.deep,.int .i64 u.size,.slice (some ⟨u.gs,0,none⟩) u.n u.cs,.slice (some ⟨u.gm,0,none⟩) u.n u.cm] 35 W') (k1.M.I.aside k2.blk (by decide)) k1.M.I.low
        obtain⟨z0,z1,z2,z3,z4⟩:=k3.Ad
        exact⟨z0,z1,z2,z3,z4,hh.x.cell 5 _ rfl⟩
       have hbk:=Aph W.drew.heap.size W.drew;generalize hCQ:(Ah ⟨u,path,(cnt 0 u.ys:Nat)⟩).toArray=cq at *;clear HKK HW0 X15 HU HKU HXP HPT HQ y0 y1 y2 y3 y4
       go_region_held3 (fun w'=>w'.cell? ⟨wo.heap.size,0,none⟩=some (.complex .f32 u.cx u.cy)/\w'.cell? ⟨wo.heap.size,1,none⟩=some (.int .i64 u.deep)/\w'.cell? ⟨wo.heap.size,2,none⟩=some (.int .i64 u.size)/\w'.cell? ⟨wo.heap.size,3,none⟩=some (.slice (some ⟨u.gs,0,none⟩) u.n u.cs)/\w'.cell? ⟨wo.heap.size,4,none⟩=some (.slice (some ⟨u.gm,0,none⟩) u.n u.cm)/\w'.cell? ⟨xb,5,none⟩=some (.string p.path)) (((first|dsimp only|skip);first |(with_reducible exact HSS.out _ hbk) |(with_reducible exact hs8.out))) (first
        |(go_at_call 37;(with_reducible refine(HCA.out _ hbk).mono ?_);rintro e w' ⟨rfl,hb⟩;replace hbk:=hbk.trans (hb.mono hbk.size);clear hb)
        |(go_at_call 35;(with_reducible refine(HCP.out _ hbk).mono ?_);rintro e w' ⟨rfl,hs8,hnx⟩))
       all_goals
        obtain⟨H2,D2,hv2,dv2,hh2⟩:=hnx;clear HSS HCA HCP hs8 A0 sl
        go_wp2
        go_roundw
        case rel=>exact⟨i+1,H2,D2,hv2,dv2,by omega,by go_num,hh2⟩
        case measure=>simp[intOf];omega
      ·obtain rfl:i=4:=by omega
       have HD:Hid (RfS c B w bd k1 H1 D1 hv1 dv1 wo):=HQ.out.M.done;clear HQ
       go_wp2
       go_roundw
       case rel=>exact⟨k1,H1,D1,hv1,dv1,by omega,by go_num,HD⟩
       case measure=>simp[intOf]
end
section
open Go.RowKit Go.Sort Flo
def wtD (d:Int):Int:=wrap64 (2^(2 *(10-d)).toNat)
def A8e (p m wt:Int):Int:=wrap64 (p+wrap64 (m*wt))
def Hu (v:Int)(L:List (Int×List Int)):Int:=L.foldl (fun p t=>A8e p (cnt v t.2:Nat) (wtD t.1)) 0
theorem Yd (v:Int)(L:List (Int×List Int))(t:Int×List Int):Hu v (L++[t])=A8e (Hu v L) (cnt v t.2:Nat) (wtD t.1):=by unfold Hu;rw[List.foldl_append];rfl
noncomputable def Wc (c:F8)(v:Int)(L:List (List UInt8)):Int:=L.foldl (fun p bs=>A8e p (Iu c v bs) (wtD ((D5 c).deep bs))) 0
theorem Sf {c:F8}{v:Int}:∀{L:List (List UInt8)} {M:List Aj},L.length=M.length ->(∀(i:Nat) bs t,L[i]?=some bs->M[i]?=some t->J7 c bs t)->Wc c v L=Hu v (M.map fun t=>(t.deep,t.ys)):=by
 intro L M hl h;unfold Wc Hu;rw[List.foldl_map];generalize (0:Int)=z
 induction L generalizing M z with
 | nil =>
   cases M with
   | nil=>rfl
   | cons _ _=>simp at hl
 | cons bs L ih =>
   cases M with
   | nil=>simp at hl
   | cons t M =>
     have h0:=h 0 bs t rfl rfl;rw[Au0,Au0,I8 h0,<-h0.deep]
     exact ih (by simpa using hl) (fun i bs t h1 h2=>h (i+1) bs t h1 h2) _
theorem A7j {c:F8}{v:Int}:∀{L:List (List UInt8)} {M:List Aj},L.length=M.length ->(∀(i:Nat) bs t,L[i]?=some bs->M[i]?=some t->J7 c bs t)->L.map (Iu c v)=M.map fun t=>((cnt v t.ys:Nat):Int):=by
 intro L M hl h
 induction L generalizing M with
 | nil =>
   cases M with
   | nil=>rfl
   | cons _ _=>simp at hl
 | cons bs L ih =>
   cases M with
   | nil=>simp at hl
   | cons t M =>
     rw[Aqo,Aqo,I8 (h 0 bs t rfl rfl),ih (by simpa using hl) (fun i bs t h1 h2=>h (i+1) bs t h1 h2)]
def Aax (c:F8)(B:Nat)(L:List (List UInt8))(e:Ending)(w':World):Prop :=
 ∃(gp cp g cap n:Nat) (P:List ByteArray),e=.returned (.tuple #[.agg #[.slice (some ⟨gp,0,none⟩) n cp,.slice (some ⟨g,0,none⟩) n cap,.int .i64 (Wc c 1 L),.int .i64 (Wc c (-1) L),.int .i64 (Wc c 0 L)],.bool true]) /\
  w'.ownsRow B 9 1 (.slice (some ⟨gp,0,none⟩) n cp) n (P.map Value.string)/\w'.ownsRow B 3 1 (.slice (some ⟨g,0,none⟩) n cap) n ((L.map (Iu c 0)).map Ax)/\P.map ByteArray.toList=L/\L.length=n/\0<n/\n<=91 /\(∀s,s∈P->s.size<=10)
def A0t:Value:=.tuple #[.agg #[.slice none 0 0,.slice none 0 0,.int .i64 0,.int .i64 0,.int .i64 0],.bool false]
def K1 (cx cy:Nat)(deep size A4 budget:Int):Prop:=∃(d0 bd:Nat) (G:List (List UInt8)),deep=d0/\budget=bd/\bd<=30/\Wi cx cy deep size /\(D5 ⟨size,A4,cx,cy,d0⟩).Eu bd [[]] (some G)
def Hm (w:World)(cx cy:Nat)(deep size A4 budget:Int)(R:List (List UInt8)->Prop)(e:Ending)(w':World):Prop :=
 Below w.heap.size w w' /\((e=.returned A0t/\¬K1 cx cy deep size A4 budget) \/
  ∃(d0 bd:Nat) (L G:List (List UInt8)),deep=d0/\budget=bd/\bd<=30/\Wi cx cy deep size/\Aax ⟨size,A4,cx,cy,d0⟩ w.heap.size L e w'/\R L /\(D5 ⟨size,A4,cx,cy,d0⟩).Eu bd [[]] (some G)/\L.Perm G)
end
section
open Go.RowKit Go.Sort Flo
theorem A78:(Vp.prog.info? 9).map (fun i=>(i.zero,i.size,i.bytes))=some (some (.string ⟨#[]⟩),1,16):=by kernel_rfl
structure PN (W0:World)(ob k1 k2:Nat)(P:List ByteArray)(ms:List Int)(pv mkv:Value)(p q r:Int)(W:World):Prop where
 O:A9 W0 ob #[pv,mkv,.int .i64 p,.int .i64 q,.int .i64 r] 29 W
 S:W.ownsRow W0.heap.size 9 1 pv k1 (P.map Value.string)
 M:W.ownsRow W0.heap.size 3 1 mkv k2 (ms.map Ax)
 ho:W0.heap.size<=ob
section
variable {W0 W W' : World} {ob k1 k2 : Nat} {P : List ByteArray} {ms : List Int} {pv mkv : Value} {p q r : Int}
theorem PN.step (h:PN W0 ob k1 k2 P ms pv mkv p q r W)(k:Below W.heap.size W W'):PN W0 ob k1 k2 P ms pv mkv p q r W':=⟨h.O.step k,Ab h.S k,Ab h.M k,h.ho⟩
theorem PN.alloc (h:PN W0 ob k1 k2 P ms pv mkv p q r W)(o:Obj):PN W0 ob k1 k2 P ms pv mkv p q r (W.alloc o):=h.step ((Aph _ _).alloc (Ap0 _) o)
theorem PN.str (h:PN W0 ob k1 k2 P ms pv mkv p q r W){v':Value}{s:ByteArray}(hown:W'.ownsRow W0.heap.size 9 1 v' (k1+1) (P.map Value.string++[.string s]))(hg:W.grownBy W' pv.ownBlock) :
 PN W0 ob (k1+1) k2 (P++[s]) ms v' mkv p q r (W'.setCell ⟨ob,0,none⟩ v')/\W'.cell? ⟨ob,0,none⟩=some pv/\W'.frozen? ⟨ob,0,none⟩=false/\∀(xb:Nat) (C:Array Value),A9 W0 xb C 52 W->A9 W0 xb C 52 (W'.setCell ⟨ob,0,none⟩ v'):=by
 have hrow:∀k,pv.ownBlock=some k->W0.heap.size<=k:=fun k hk=>(h.S.lt k hk).1
 have O:=h.O.grown hg (Ag h.S h.O.blk (by decide)) hrow
 have M:=(Gb.Ou (S:=fun k=>pv.ownBlock=some k) hg (fun k hk=>hk)).owns h.M fun b hb hs=>by
  obtain⟨_,C,hc⟩:=Cu h.M hb
  exact Ag h.S hc (by decide) hs
 refine⟨⟨O.set h.ho 0 v',?_,A6 M O.blk (by decide) _,h.ho⟩,O.cell 0 _ rfl,O.frozen 0,fun xb C X=>?_⟩
 ·rw[Aq2]
  exact A6 hown O.blk (by decide) _
 ·have hne:xb≠ob:=fun e=>by
   subst e;have:=X.blk.symm.trans h.O.blk;injection this with this
   injection this with _ this
   revert this
   decide
  exact(X.grown hg (Ag h.S X.blk (by decide)) hrow).other (p:=⟨ob,0,none⟩) h.ho hne _
theorem PN.mrk (h:PN W0 ob k1 k2 P ms pv mkv p q r W){v':Value}{z:Int}(hown:W'.ownsRow W0.heap.size 3 1 v' (k2+1) (ms.map Ax++[Ax z]))(hg:W.grownBy W' mkv.ownBlock) :
 PN W0 ob k1 (k2+1) P (ms++[z]) pv v' p q r (W'.setCell ⟨ob,1,none⟩ v')/\W'.cell? ⟨ob,1,none⟩=some mkv/\W'.frozen? ⟨ob,1,none⟩=false/\∀(xb:Nat) (C:Array Value),A9 W0 xb C 52 W->A9 W0 xb C 52 (W'.setCell ⟨ob,1,none⟩ v'):=by
 have hrow:∀k,mkv.ownBlock=some k->W0.heap.size<=k:=fun k hk=>(h.M.lt k hk).1
 have O:=h.O.grown hg (Ag h.M h.O.blk (by decide)) hrow
 have S:=(Gb.Ou (S:=fun k=>mkv.ownBlock=some k) hg (fun k hk=>hk)).owns h.S fun b hb hs=>by
  obtain⟨_,C,hc⟩:=Cu h.S hb
  exact Ag h.M hc (by decide) hs
 refine⟨⟨O.set h.ho 1 v',A6 S O.blk (by decide) _,?_,h.ho⟩,O.cell 1 _ rfl,O.frozen 1,fun xb C X=>?_⟩
 ·rw[Aq2]
  exact A6 hown O.blk (by decide) _
 ·have hne:xb≠ob:=fun e=>by
   subst e;have:=X.blk.symm.trans h.O.blk;injection this with this
   injection this with _ this
   revert this
   decide
  exact(X.grown hg (Ag h.M X.blk (by decide)) hrow).other (p:=⟨ob,1,none⟩) h.ho hne _
theorem PN.Aim (h:PN W0 ob k1 k2 P ms pv mkv p q r W)(x y z:Int):PN W0 ob k1 k2 P ms pv mkv x y z (((W.setCell ⟨ob,2,none⟩ (.int .i64 x)).setCell ⟨ob,3,none⟩ (.int .i64 y)).setCell ⟨ob,4,none⟩ (.int .i64 z)):=by
 have b1:=h.O.set h.ho 2 (.int .i64 x);have b2:=b1.set h.ho 3 (.int .i64 y)
 exact⟨b2.set h.ho 4 _,A6 (A6 (A6 h.S h.O.blk (by decide) _) b1.blk (by decide) _) b2.blk (by decide) _,A6 (A6 (A6 h.M h.O.blk (by decide) _) b1.blk (by decide) _) b2.blk (by decide) _,h.ho⟩
end
theorem A4o (t:Aj)(B:Nat)(W':World)(h:Cn B t W'):Calls Vp.prog 17 #[.slice (some ⟨t.gm,0,none⟩) t.n t.cm] W' fun e w'=>e=.returned (.agg #[.int .i64 (cnt 1 t.ys:Nat),.int .i64 (cnt (-1) t.ys:Nat),.int .i64 (cnt 0 t.ys:Nat)])/\Below W'.heap.size W' w':=by
 have hb':=Bs h.pl;have hl:=h.made.ly
 have hn:t.n<=64:=by
  unfold Aj.n;have:t.size.toNat<=8:=by omega
  exact Aqh this this
 have:=Qi (some ⟨t.gm,0,none⟩) t.cm t.ys (by omega) h.made.hy W' (Es h.made.M)
 rw[hl]at this;have hcq:I9 t.ys t.n=#[.int .i64 (cnt 1 t.ys:Nat),.int .i64 (cnt (-1) t.ys:Nat),.int .i64 (cnt 0 t.ys:Nat)]:=by unfold I9;rw[<-hl,List.take_length]
 rwa [hcq]at this
theorem A5k {W:World}{B g cap n k:Nat}{L:List Ae}{p:Ae}(h:W.ownsRow B 52 7 (.slice (some ⟨g,0,none⟩) n cap) n (Ap L))(hL:L.length=n)(hp:L[k]?=some p) :
 W.cell? ⟨g,k*7,none⟩=some (.complex .f32 p.t.cx p.t.cy)/\W.cell? ⟨g,k*7+1,none⟩=some (.int .i64 p.t.deep)/\W.cell? ⟨g,k*7+2,none⟩=some (.int .i64 p.t.size)/\W.cell? ⟨g,k*7+3,none⟩=some (.slice (some ⟨p.t.gs,0,none⟩) p.t.n p.t.cs)/\W.cell? ⟨g,k*7+4,none⟩=some (.slice (some ⟨p.t.gm,0,none⟩) p.t.n p.t.cm)/\W.cell? ⟨g,k*7+5,none⟩=some (.string p.path)/\W.cell? ⟨g,k*7+6,none⟩=some (.int .i64 p.opn):=by
 obtain⟨hk,he⟩:=Apg.1 hp;obtain⟨R,-,-⟩:=H9 (d:=L.toArray) (by simpa using h) (by simpa using hL)
 have hd:L.toArray[k]! = p:=by rw[As7 L.toArray k (by simpa using hk)];simpa using he
 have at_:∀j v,(Ah p)[j]?=some v->W.cell? ⟨g,k*7+j,none⟩=some v:=fun j v hv=>R.cell (by simpa using hk) (by rw[hd];exact hv)
 exact⟨at_ 0 _ rfl,at_ 1 _ rfl,at_ 2 _ rfl,at_ 3 _ rfl,at_ 4 _ rfl,at_ 5 _ rfl,at_ 6 _ rfl⟩
end
section
open Go.RowKit Go.Sort Flo
attribute [local go_sem ↓] Go.wp_at_zero Go.wp_at_succ
attribute [local go_sem] A7 A5
theorem Qv (cx cy:Nat)(deep size A4 budget:Int)(hx:cx<4294967296)(hy:cy<4294967296)(w:World) :
 Calls Vp.prog 6 #[.complex .f32 cx cy,.int .i64 deep,.int .i64 size,.int .i64 A4,.int .i64 budget] w (Hm w cx cy deep size A4 budget (fun L=>L.Pairwise (fun a b=>Op.bytesLess b a=false))):=by
 have HMK:=Aoy (fun W=>Xa cx cy deep size A4 hx hy W)
 have R:=A9.new w #[.slice none 0 0,.slice none 0 0,.int .i64 0,.int .i64 0,.int .i64 0] 29;have HR:=Aoy R;obtain⟨r0,r1,r2,r3,r4⟩:=R.Ad;obtain⟨f0,f1,f2,f3,f4⟩:=R.Hk;clear R
 have hcase:budget<0\/30<budget\/∃bd:Nat,budget=bd/\bd<=30:=by
  rcases Arw budget 0 with h|h
  ·exact .inl h
  ·rcases Arw 30 budget with g|g
   ·exact .inr (.inl g)
   ·exact .inr (.inr ⟨budget.toNat,by omega,by omega⟩)
 rcases hcase with hb1|hb2 |⟨bd,rfl,hbd⟩
 ·have HNO:Hid (¬K1 cx cy deep size A4 budget):=fun⟨_,bd,_,_,e,_⟩=>by omega
  have e1:decide (budget<0)=true:=Apj hb1;clear hb1 HMK
  go_enter Vp.func6,Tryz.ntmps6
  go_wp2
  exact Ap4 (v:=.tuple #[.agg #[.slice none 0 0,.slice none 0 0,.int .i64 0,.int .i64 0,.int .i64 0],.bool false]) (by simp[results,Tryz.f6,go_sem,r0,r1,r2,r3,r4]) rfl ⟨HR.out.old,.inl ⟨rfl,HNO.out⟩⟩
 ·have HNO:Hid (¬K1 cx cy deep size A4 budget):=fun⟨_,bd,_,_,e,h,_⟩=>by omega
  have e1:decide (budget<0)=false:=Apy (by omega)
  have e2:decide (30<budget)=true:=Apj hb2;clear hb2 HMK
  go_enter Vp.func6,Tryz.ntmps6
  go_wp2
  exact Ap4 (v:=.tuple #[.agg #[.slice none 0 0,.slice none 0 0,.int .i64 0,.int .i64 0,.int .i64 0],.bool false]) (by simp[results,Tryz.f6,go_sem,r0,r1,r2,r3,r4]) rfl ⟨HR.out.old,.inl ⟨rfl,HNO.out⟩⟩
 ·have e1:decide ((bd:Int)<0)=false:=Apy (by omega)
  have e2:decide ((30:Int) <(bd:Int))=false:=Apy (by omega)
  go_enter Vp.func6,Tryz.ntmps6
  go_wp2_with fail
  refine(HMK.out _).mono ?_
  rintro e w1 ⟨⟨x,y,dd,ss,a1,n1,c1,a2,n2,c2,ok,rfl,hM⟩,hb1⟩;have HM:=Aoy hM;have HB1:=Aoy hb1;have HR1:=Aoy ((HR.out.step HB1.out).alloc (.cells #[.complex .f32 x y,.int .i64 dd,.int .i64 ss,.slice a1 n1 c1,.slice a2 n2 c2] 35));have htb:w.heap.size<w1.heap.size:=(HR.out.step HB1.out).lt;clear hM hb1 r0 r1 r2 r3 r4 f0 f1 f2 f3 f4
  cases ok with
  | false =>
    have HNO:Hid (¬K1 cx cy deep size A4 bd):=fun⟨_,_,_,_,_,_,h,_⟩=>(HM.out.1 rfl).1 h
    have HBX:=Aoy (HR.out.step HB1.out).old;have hbx:=HBX.out.size;have HZ:=Aoy (((HR.out.step HB1.out).Ly (Ap0 _) (.slice none 0 0) (.slice none 0 0) (.int .i64 0) (.int .i64 0) (.int .i64 0)).alloc (.cells #[.complex .f32 x y,.int .i64 dd,.int .i64 ss,.slice a1 n1 c1,.slice a2 n2 c2] 35));obtain⟨r0,r1,r2,r3,r4⟩:=(HR.out.step HB1.out).Ad;obtain⟨f0,f1,f2,f3,f4⟩:=(HR.out.step HB1.out).Hk;clear e1 e2 HR1
    go_wp2
    obtain⟨z0,z1,z2,z3,z4⟩:=HZ.out.Ad
    exact Ap4 (v:=.tuple #[.agg #[.slice none 0 0,.slice none 0 0,.int .i64 0,.int .i64 0,.int .i64 0],.bool false]) (by simp[results,Tryz.f6,go_sem,z0,z1,z2,z3,z4]) rfl ⟨(Ly HBX.out (Ap0 _) _ _ _ _ _).alloc (by simp;omega) _,.inl ⟨rfl,HNO.out⟩⟩
  | true =>
    obtain⟨t,q1,q2,q3,q4,q5,ht,hgood⟩:=HM.out.2 rfl;obtain⟨d0,s0,hd0,hs0,-,-,-,-⟩:=hgood.n
    have hMK:Wi cx cy deep size:=by
     obtain⟨d,s,a,b,g1,g2,g3,-,-⟩:=hgood;rw[<-q1,<-q2,<-q3,<-q4]
     exact⟨d,s,a,b,g1,g2,g3⟩
    have HMKP:=Aoy hMK
    have hC:(#[.complex .f32 x y,.int .i64 dd,.int .i64 ss,.slice a1 n1 c1,.slice a2 n2 c2]:Array Value)=#[.complex .f32 t.cx t.cy,.int .i64 t.deep,.int .i64 t.size,.slice (some ⟨t.gs,0,none⟩) t.n t.cs,.slice (some ⟨t.gm,0,none⟩) t.n t.cm]:=by
     injection q5
    injection hC with hC
    simp only[List.cons.injEq,and_true]at hC;obtain⟨g1,g2,g3,g4,g5⟩:=hC;injection g1 with _ g1 g1'
    injection g2 with _ g2
    injection g3 with _ g3
    injection g4 with g4 g4' g4''
    injection g5 with g5 g5' g5''
    subst g1 g1' g2 g3 g4 g4' g4'' g5 g5' g5'';have hd1:deep=d0:=q3.symm.trans hd0;subst hd1;have hat:J7 ⟨size,A4,cx,cy,d0⟩ [] t:=⟨⟨d0,hd0,q1,q2,rfl⟩,q4,hgood⟩
    have ho:Cn (w.heap.size+1) t (w1.alloc (.cells #[.complex .f32 t.cx t.cy,.int .i64 t.deep,.int .i64 t.size,.slice (some ⟨t.gs,0,none⟩) t.n t.cs,.slice (some ⟨t.gm,0,none⟩) t.n t.cm] 35)):=by
     have:=ht;rw[Apl]at this
     exact this.step ((Aph _ _).alloc (Ap0 _) _)
    have CR:=Aoy (A9o ⟨size,A4,cx,cy,d0⟩ (w.heap.size+1) bd t hbd _ (by have:=HR1.out.lt;omega) ho hat)
    rw[show t.cells.toArray=#[.complex .f32 t.cx t.cy,.int .i64 t.deep,.int .i64 t.size,.slice (some ⟨t.gs,0,none⟩) t.n t.cs,.slice (some ⟨t.gm,0,none⟩) t.n t.cm]from rfl]at CR;obtain⟨r0,r1,r2,r3,r4⟩:=(HR.out.step HB1.out).Ad;obtain⟨f0,f1,f2,f3,f4⟩:=(HR.out.step HB1.out).Hk;clear hMK hat ho hgood q1 q2 q3 q4 q5 ht hd0 hs0 HM e1 e2
    go_wp2_with fail
    refine CR.out.mono ?_
    rintro e w2 ⟨hb2,⟨rfl,hfl⟩ |⟨g,cap,n,L,G,rfl,hLn,hnb,hn0,hrow,hel,hpw,hG,hGp⟩⟩
    ·have HNO:Hid (¬K1 cx cy d0 size A4 bd):=fun⟨d0',bd',G,e1,e2,_,_,h⟩=>by
      obtain rfl:d0=d0':=by omega
      obtain rfl:bd=bd':=by omega
      exact hfl.det (At4 _) h
     have HR2:=Aoy (HR1.out.step hb2);clear hfl hb2 CR r0 r1 r2 r3 r4 f0 f1 f2 f3 f4;obtain⟨r0,r1,r2,r3,r4⟩:=HR2.out.Ad;obtain⟨f0,f1,f2,f3,f4⟩:=HR2.out.Hk
     go_wp2
     exact Ap4 (v:=.tuple #[.agg #[.slice none 0 0,.slice none 0 0,.int .i64 0,.int .i64 0,.int .i64 0],.bool false]) (by simp[results,Tryz.f6,go_sem,r0,r1,r2,r3,r4]) rfl ⟨Ly HR2.out.old (Ap0 _) _ _ _ _ _,.inl ⟨rfl,HNO.out⟩⟩
    ·have HR2:=Aoy (HR1.out.step hb2);have HROW:=Aoy hrow;have HEL:=Aoy hel;have HPW:=Aoy hpw;have HG:=Aoy (And.intro hG hGp);have HLN:=Aoy hLn;have hn91:n<=91:=by omega
     clear hb2 hrow hel hpw hG hGp hLn CR r0 r1 r2 r3 r4 f0 f1 f2 f3 f4;obtain⟨iS,hiS,hzS0,hzS1,hzS2⟩:=Aqz A78;obtain⟨iI,hiI,hzI0,hzI1,hzI2⟩:=Aqz Qn
     go_upto_region 10 with fail
     have HP0:Hid (PN w2 w2.heap.size 0 0 [] [] (.slice none 0 0) (.slice none 0 0) 0 0 0 (w2.alloc (.cells #[.slice none 0 0,.slice none 0 0,.int .i64 0,.int .i64 0,.int .i64 0] 29))) :=
      ⟨A9.new w2 _ _,⟨rfl,.inl ⟨rfl,rfl⟩⟩,⟨rfl,.inl ⟨rfl,rfl⟩⟩,Ap0 _⟩
     have HOB:Hid (w.heap.size<w2.heap.size):=HR2.out.lt;generalize w2.alloc (.cells #[.slice none 0 0,.slice none 0 0,.int .i64 0,.int .i64 0,.int .i64 0] 29)=wb at *;obtain⟨ob,hob⟩:∃ob,w2.heap.size=ob:=⟨_,rfl⟩;have HW2:Hid (w2.heap.size=ob):=hob;rw[hob]at HP0 ⊢;clear hob
     go_wp2
     go_loopw [51] (fun iv wr=>∃(k:Nat) (pv mkv:Value) (x y z:Int),k<=n/\iv=.int .i64 k/\Hid (PN w2 ob k k ((L.take k).map Ae.path) ((L.take k).map Ae.opn) pv mkv x y z wr)/\Hid (x=Hu 1 ((L.take k).map fun q=>(q.t.deep,q.t.ys))/\y=Hu (-1) ((L.take k).map fun q=>(q.t.deep,q.t.ys))/\z=Hu 0 ((L.take k).map fun q=>(q.t.deep,q.t.ys)))) (fun iv _=>(n-intOf iv).toNat)
     case atStart=>exact⟨0,_,_,0,0,0,by omega,rfl,HP0,rfl,rfl,rfl⟩
     case round =>
      clear HP0;obtain⟨k,pv,mkv,x,y,z,hk,rfl,HP,HS⟩:=hrel;obtain⟨wo,rfl⟩:∃wo,wo=wr:=⟨_,rfl⟩
      by_cases hlt:k<n
      ·obtain⟨p,hp⟩:∃p,L[k]?=some p:=⟨_,Apd (by have:=HLN.out;omega)⟩
       obtain⟨y0,y1,y2,y3,y4,y5,y6⟩:=A5k (Ab HROW.out HP.out.O.old) HLN.out hp;have HEP:=Aoy (HEL.out p (Aq7 hp))
       have HTK:Hid (L.take (k+1)=L.take k++[p]):=by
        show _=_
        rw[List.take_add_one,hp];rfl
       have b5:(k:Int)<n:=by omega
       have b6:(0:Int)<=k:=by omega
       clear hp
       go_upto_region 13 with fail
       have e2:(Ah p).toArray=#[.complex .f32 p.t.cx p.t.cy,.int .i64 p.t.deep,.int .i64 p.t.size,.slice (some ⟨p.t.gs,0,none⟩) p.t.n p.t.cs,.slice (some ⟨p.t.gm,0,none⟩) p.t.n p.t.cm,.string p.path,.int .i64 p.opn]:=rfl;have X1:=(A9.new wo #[.complex .f32 p.t.cx p.t.cy,.int .i64 p.t.deep,.int .i64 p.t.size,.slice (some ⟨p.t.gs,0,none⟩) p.t.n p.t.cs,.slice (some ⟨p.t.gm,0,none⟩) p.t.n p.t.cm,.string p.path,.int .i64 p.opn] 52).up HP.out.O.old;have HX1:=Aoy X1;have HP1:=Aoy (HP.out.alloc (.cells #[.complex .f32 p.t.cx p.t.cy,.int .i64 p.t.deep,.int .i64 p.t.size,.slice (some ⟨p.t.gs,0,none⟩) p.t.n p.t.cs,.slice (some ⟨p.t.gm,0,none⟩) p.t.n p.t.cm,.string p.path,.int .i64 p.opn] 52));clear X1 HP y0 y1 y2 y3 y4 y5 y6 e2;generalize wo.alloc (.cells #[.complex .f32 p.t.cx p.t.cy,.int .i64 p.t.deep,.int .i64 p.t.size,.slice (some ⟨p.t.gs,0,none⟩) p.t.n p.t.cs,.slice (some ⟨p.t.gm,0,none⟩) p.t.n p.t.cm,.string p.path,.int .i64 p.opn] 52)=W1 at *;generalize wo.heap.size=xb at *;have o0:=HP1.out.O.cell 0 _ rfl;obtain⟨x0,x1,x2,x3,x4,x5,x6⟩:=HX1.out.D7;have hml:k+1<=maxLen:=by unfold maxLen;omega
       have HOW:Hid ((W1.alloc (.cells #[.string p.path] 9)).ownsRow w2.heap.size 9 1 pv k (((L.take k).map Ae.path).map Value.string)):=(HP1.out.alloc _).S;have HSZ:Hid (w2.heap.size <=(W1.alloc (.cells #[.string p.path] 9)).heap.size):=(HP1.out.alloc (.cells #[.string p.path] 9)).O.old.size
       go_upto_region 14 with(at_builtin;refine E5 _ rfl _ _ _ rfl w2.heap.size 9 iS _ 1 16 (Vp.Dw Tryz.underlying26) hiS hzS0 hzS1 hzS2 rfl (by omega) _ k (((L.take k).map Ae.path).map Value.string) rfl HOW.out ⟨W1.heap.size,0,none⟩ 1 1 [.string p.path] rfl rfl (World.news_of_block (cs:=#[.string p.path]) (t:=9) (fr:=(0,0)) (Arc W1 _)) (by simp[Value.oneCell']) hml (by omega) HSZ.out ?_;intro v6 w6 hown6 hgrow6 hmv6;obtain⟨g6,c6,rfl,-,-⟩:=ownsRow_form hown6 (by omega);have H6:=Aoy (And.intro ((HP1.out.alloc (.cells #[.string p.path] 9)).str hown6 hgrow6) (HX1.out.alloc (.cells #[.string p.path] 9)));have k0:=H6.out.1.2.1;have q0:=H6.out.1.2.2.1;clear hown6 hgrow6 hmv6)
       have HP2:=Aoy H6.out.1.1;have HX2:=Aoy (H6.out.1.2.2.2 _ _ H6.out.2);clear H6 k0 q0 HP1 HX1 HOW HSZ o0 x0 x1 x2 x3 x4 x5 x6;generalize w6.setCell ⟨ob,0,none⟩ (.slice (some ⟨g6,0,none⟩) (k+1) c6)=W2 at *;have o1:=HP2.out.O.cell 1 _ rfl;obtain⟨x0,x1,x2,x3,x4,x5,x6⟩:=HX2.out.D7;have HOW:Hid ((W2.alloc (.cells #[.int .i64 p.opn] 3)).ownsRow w2.heap.size 3 1 mkv k (((L.take k).map Ae.opn).map Ax)):=(HP2.out.alloc _).M;have HSZ:Hid (w2.heap.size <=(W2.alloc (.cells #[.int .i64 p.opn] 3)).heap.size):=(HP2.out.alloc (.cells #[.int .i64 p.opn] 3)).O.old.size
       go_upto_region 15 with(at_builtin;refine E5 _ rfl _ _ _ rfl w2.heap.size 3 iI _ 1 8 (Vp.Dw Tryz.underlying27) hiI hzI0 hzI1 hzI2 rfl (by omega) _ k (((L.take k).map Ae.opn).map Ax) rfl HOW.out ⟨W2.heap.size,0,none⟩ 1 1 [Ax p.opn] rfl rfl (World.news_of_block (cs:=#[Ax p.opn]) (t:=3) (fr:=(0,0)) (Arc W2 _)) (by simp[Ax,Value.oneCell']) hml (by omega) HSZ.out ?_;intro v7 w7 hown6 hgrow6 hmv6;obtain⟨g7,c7,rfl,-,-⟩:=ownsRow_form hown6 (by omega);have H7:=Aoy (And.intro ((HP2.out.alloc (.cells #[.int .i64 p.opn] 3)).mrk hown6 hgrow6) (HX2.out.alloc (.cells #[.int .i64 p.opn] 3)));have k0:=H7.out.1.2.1;have q0:=H7.out.1.2.2.1;clear hown6 hgrow6 hmv6)
       have HP3:=Aoy H7.out.1.1;have HX3:=Aoy (H7.out.1.2.2.2 _ _ H7.out.2);clear H7 k0 q0 HP2 HX2 HOW HSZ o1 x0 x1 x2 x3 x4 x5 x6 hml hzS0 hzS1 hzS2 hzI0 hzI1 hzI2 hiS hiI;generalize w7.setCell ⟨ob,1,none⟩ (.slice (some ⟨g7,0,none⟩) (k+1) c7)=W3 at *;obtain⟨x0,x1,x2,x3,x4,x5,x6⟩:=HX3.out.D7;have CC:=Aoy (A4o p.t (w.heap.size+1) W3 ((HEP.out.2.step HP3.out.O.old)))
       have HDP:Hid (0<=p.t.deep/\p.t.deep<=10):=by
        have:=Bs HEP.out.2.pl
        exact⟨this.1,this.2.1⟩
       obtain⟨sh1,hs1⟩:∃s:Nat,10-p.t.deep=(s:Int):=⟨(10-p.t.deep).toNat,by have:=HDP.out;omega⟩
       obtain⟨sh2,hs2⟩:∃s:Nat,2 *(sh1:Int)=(s:Int):=⟨2*sh1,by omega⟩
       have hs3:sh2<=20:=by have:=HDP.out;omega
       have HSH:Hid ((2 *(10-p.t.deep)).toNat=sh2):=by
        show _=_
        omega
       have v1:IntKind.i64.wrap (10-p.t.deep)=(sh1:Int):=by rw[hs1];exact Aq4 _ (by omega)
       have v2:IntKind.i64.wrap (2 *(sh1:Int))=(sh2:Int):=by rw[hs2];exact Aq4 _ (by omega)
       have HM1:Hid (∃m1 m2 m0:Int,((cnt 1 p.t.ys:Nat):Int)=m1 /\((cnt (-1) p.t.ys:Nat):Int)=m2 /\((cnt 0 p.t.ys:Nat):Int)=m0):=⟨_,_,_,rfl,rfl,rfl⟩;obtain⟨m1,m2,m0,hm1,hm2,hm0⟩:=HM1.out;rw[hm1,hm2,hm0]at CC;have HMM:=Aoy (And.intro hm1 (And.intro hm2 hm0));clear HM1 hm1 hm2 hm0
       go_upto_region 16 with fail
       have hwt:wrap64 (2^sh2)=wtD p.t.deep:=by
        unfold wtD;rw[HSH.out]
       have HWT:=Aoy hwt;generalize wrap64 (2^sh2)=wt at *;clear hwt v1 v2 hs1 hs2 hs3 HSH
       go_wp2_with fail
       refine CC.out.mono ?_
       rintro e w8 ⟨rfl,hb8⟩;have HP5:=Aoy ((HP3.out.step hb8).alloc (.cells #[.int .i64 m1,.int .i64 m2,.int .i64 m0] 53));have HOL:Hid (ob<w8.heap.size):=(HP3.out.step hb8).O.lt;have HCB:=Aoy (A9.new w8 #[.int .i64 m1,.int .i64 m2,.int .i64 m0] 53);clear hb8 CC HP3 HX3 x0 x1 x2 x3 x4 x5 x6
       go_upto_region 17 with fail
       generalize w8.alloc (.cells #[.int .i64 m1,.int .i64 m2,.int .i64 m0] 53)=W5 at *;have hol:=HOL.out;generalize w8.heap.size=cb at *;have c0:=HCB.out.cell 0 _ rfl;have c1:=HCB.out.cell 1 _ rfl;have c2:=HCB.out.cell 2 _ rfl;obtain⟨-,-,o2,o3,o4⟩:=HP5.out.O.Ad;obtain⟨-,-,f2,f3,f4⟩:=HP5.out.O.Hk;have hne:¬cb=ob:=by omega
       have hne':¬ob=cb:=by omega
       go_wp2
       go_roundw
       case rel =>
        refine⟨k+1,.slice (some ⟨g6,0,none⟩) (k+1) c6,.slice (some ⟨g7,0,none⟩) (k+1) c7,wrap64 (x+wrap64 (m1*wt)),wrap64 (y+wrap64 (m2*wt)),wrap64 (z+wrap64 (m0*wt)),by omega,by go_num,?_,?_⟩
        ·rw[HTK.out,Aq2,Aq2]
         exact HP5.out.Aim _ _ _
        ·rw[HTK.out];simp only[Aq2,Aqo,Asr,Yd];rw[<-HS.out.1,<-HS.out.2.1,<-HS.out.2.2,HMM.out.1,HMM.out.2.1,HMM.out.2.2,<-HWT.out]
         exact⟨rfl,rfl,rfl⟩
       case measure=>simp[intOf];omega
      ·have hkn:k=n:=by omega
       subst hkn;obtain⟨gp,cp,rfl,-,-⟩:=ownsRow_form HP.out.S hn0;obtain⟨gm,cm,rfl,-,-⟩:=ownsRow_form HP.out.M hn0;have hTK:L.take k=L:=Ar3 (by have:=HLN.out;omega)
       have HRN:=Aoy (HR2.out.step HP.out.O.old)
       have HFIN:Hid (Hm w cx cy d0 size A4 bd (fun L=>L.Pairwise (fun a b=>Op.bytesLess b a=false)) (.returned (.tuple #[.agg #[.slice (some ⟨gp,0,none⟩) k cp,.slice (some ⟨gm,0,none⟩) k cm,.int .i64 x,.int .i64 y,.int .i64 z],.bool true]))
        (((((wo.setCell ⟨w.heap.size,0,none⟩ (.slice (some ⟨gp,0,none⟩) k cp)).setCell ⟨w.heap.size,1,none⟩ (.slice (some ⟨gm,0,none⟩) k cm)).setCell ⟨w.heap.size,2,none⟩ (.int .i64 x)).setCell ⟨w.heap.size,3,none⟩ (.int .i64 y)).setCell ⟨w.heap.size,4,none⟩ (.int .i64 z))):=by
        obtain⟨q1,q2,q3⟩:=HS.out;have hS:=HP.out.S;have hM:=HP.out.M;rw[hTK]at q1 q2 q3 hS hM;have hlen:(Fj L).length=(L.map (·.t)).length:=by unfold Fj;rw[Aqs,Aqs]
        have hAt:∀(i:Nat) bs (t:Aj),(Fj L)[i]?=some bs ->(L.map (·.t))[i]?=some t->J7 ⟨size,A4,cx,cy,d0⟩ bs t:=fun i bs t h1 h2=>by
         unfold Fj at h1;rw[Apv]at h1 h2;obtain⟨u,hu,rfl⟩:=Ape.1 h1;obtain⟨u',hu',rfl⟩:=Ape.1 h2;rw[hu]at hu';injection hu' with hu'
         subst hu'
         exact(HEL.out u (Aq7 hu)).1.at_
        have hsum:∀v,Wc ⟨size,A4,cx,cy,d0⟩ v (Fj L)=Hu v (L.map fun q=>(q.t.deep,q.t.ys)):=fun v=>by
         rw[Sf hlen hAt,Au6]
         rfl
        have hop:(Fj L).map (Iu ⟨size,A4,cx,cy,d0⟩ 0)=L.map Ae.opn:=by
         rw[A7j hlen hAt,Au6]
         exact List.map_congr_left fun u hu=>((HEL.out u hu).1.opn).symm
        refine⟨Ly HRN.out.old (Ap0 _) _ _ _ _ _,.inr ⟨d0,bd,Fj L,G,rfl,rfl,hbd,HMKP.out,⟨gp,cp,gm,cm,k,L.map Ae.path,?_,?_,?_,?_,?_,hn0,hn91,?_⟩,HPW.out,HG.out.1,HG.out.2⟩⟩
        ·rw[hsum,hsum,hsum,<-q1,<-q2,<-q3]
        ·exact Hr (Jp hS (Ate HOB.out)) HRN.out (Ap0 _) (by decide) _ _ _ _ _
        ·rw[hop]
         exact Hr (Jp hM (Ate HOB.out)) HRN.out (Ap0 _) (by decide) _ _ _ _ _
        ·rw[Au6];rfl
        ·unfold Fj;rw[Aqs];exact HLN.out
        ·intro s hs;obtain⟨u,hu,rfl⟩:=Aq5.1 hs;have h1:=(Bs (HEL.out u hu).2.pl).2.1;have h2:=(HEL.out u hu).1.at_.deep;have h3:u.path.toList.length=u.path.size:=by rw[toList_data];exact Aqw
         have h4:(D5 (⟨size,A4,cx,cy,d0⟩:F8)).deep u.path.toList=(d0:Int)+u.path.toList.length:=rfl
         omega
       obtain⟨o0,o1,o2,o3,o4⟩:=HP.out.O.Ad;obtain⟨r0,r1,r2,r3,r4⟩:=HRN.out.Ad;obtain⟨f0,f1,f2,f3,f4⟩:=HRN.out.Hk;clear hTK
       go_wp2
       exact Ap4 (v:=.tuple #[.agg #[.slice (some ⟨gp,0,none⟩) k cp,.slice (some ⟨gm,0,none⟩) k cm,.int .i64 x,.int .i64 y,.int .i64 z],.bool true]) (by simp[results,Tryz.f6,go_sem,r0,r1,r2,r3,r4]) rfl HFIN.out
end
section
open Go.RowKit Go.Sort Flo
def A0u (L:List JT)(b:Int):Prop:=(b=-1/\∀t,t∈L->¬(0<cnt 0 t.ys/\t.deep<10))\/∃(i:Nat) (t:JT),b=i/\L[i]?=some t/\0<cnt 0 t.ys/\t.deep<10/\∀(j:Nat) u,L[j]?=some u->0<cnt 0 u.ys->u.deep<10->cnt 0 u.ys<=cnt 0 t.ys /\(j<i->cnt 0 u.ys<cnt 0 t.ys)
def I1 (L:List JT)(k:Nat)(b m:Int):Prop:=(b=-1/\m=0/\∀(j:Nat) t,j<k->L[j]?=some t->¬(0<cnt 0 t.ys/\t.deep<10))\/∃(i:Nat) (t:JT),b=i/\i<k/\L[i]?=some t/\m=(cnt 0 t.ys:Nat)/\0<cnt 0 t.ys/\t.deep<10/\∀(j:Nat) u,j<k->L[j]?=some u->0<cnt 0 u.ys->u.deep<10->cnt 0 u.ys<=cnt 0 t.ys /\(j<i->cnt 0 u.ys<cnt 0 t.ys)
theorem I1.done {L:List JT}{b m:Int}(h:I1 L L.length b m):A0u L b:=by
 rcases h with⟨h1,_,h2⟩ |⟨i,t,h1,_,h3,_,h5,h6,h7⟩
 ·exact .inl ⟨h1,fun t ht=>by
   obtain⟨j,hj⟩:=Auq ht
   exact h2 j t (Apg.1 hj).1 hj⟩
 ·exact .inr ⟨i,t,h1,h3,h5,h6,fun j u hj=>h7 j u (Apg.1 hj).1 hj⟩
theorem I1.take {L:List JT}{k:Nat}{b m:Int}{t:JT}(h:I1 L k b m)(ht:L[k]?=some t)(h1:m <(cnt 0 t.ys:Nat))(h2:t.deep<10):I1 L (k+1) k (cnt 0 t.ys:Nat):=by
 have hm:0<=m:=by
  rcases h with⟨_,h,_⟩ |⟨i,u,_,_,_,h,_⟩<;>omega
 refine .inr ⟨k,t,rfl,by omega,ht,rfl,by omega,h2,fun j u hj hu g1 g2=>?_⟩
 rcases Asp j k with hjk|hjk
 ·rcases h with⟨_,_,h⟩ |⟨i,v,_,_,_,hmv,_,_,h⟩
  ·exact absurd ⟨g1,g2⟩ (h j u hjk hu)
  ·have:=(h j u hjk hu g1 g2).1
   omega
 ·have:j=k:=by omega
  subst this;rw[ht]at hu;injection hu with hu
  subst hu
  exact⟨Ap0 _,fun h=>by omega⟩
theorem I1.skip {L:List JT}{k:Nat}{b m:Int}{t:JT}(h:I1 L k b m)(ht:L[k]?=some t)(h1:¬(m <(cnt 0 t.ys:Nat)/\t.deep<10)):I1 L (k+1) b m:=by
 rcases h with⟨h2,h3,h4⟩ |⟨i,v,h2,h3,h4,h5,h6,h7,h8⟩
 ·refine .inl ⟨h2,h3,fun j u hj hu g=>?_⟩
  rcases Asp j k with hjk|hjk
  ·exact h4 j u hjk hu g
  ·have:j=k:=by omega
   subst this;rw[ht]at hu;injection hu with hu
   subst hu
   exact h1 ⟨by omega,g.2⟩
 ·refine .inr ⟨i,v,h2,by omega,h4,h5,h6,h7,fun j u hj hu g1 g2=>?_⟩
  rcases Asp j k with hjk|hjk
  ·exact h8 j u hjk hu g1 g2
  ·have:j=k:=by omega
   subst this;rw[ht]at hu;injection hu with hu
   subst hu
   exact⟨by omega,fun h=>by omega⟩
structure PV (c:F8)(bd m:Nat)(L:List Aj)(P:List ByteArray):Prop where
 zip:∃Z:List (ByteArray×Aj),P=Z.map (·.1)/\L=Z.map (·.2)/\∀q,q∈Z->J7 c q.1.toList q.2
 left:(P.map ByteArray.toList).Pairwise Left
 mm:m<=bd
 run:Sj c bd (bd-m) (P.map ByteArray.toList)
theorem PV.first {c:F8}{bd:Nat}{t:Aj}(h:J7 c [] t):PV c bd 0 [t] [⟨#[]⟩]:=by
 have hn:(⟨#[]⟩:ByteArray).toList=[]:=by rw[toList_data]
 refine⟨⟨[(⟨#[]⟩,t)],rfl,rfl,fun q hq=>?_⟩,by simp,Aq1 _,fun r hr=>?_⟩
 ·obtain rfl:q=(⟨#[]⟩,t):=by simpa using hq
  show J7 c (⟨#[]⟩:ByteArray).toList t
  rw[hn]
  exact h
 ·rw[Aqo,Asr,hn]at hr
  exact⟨r,hr,E9.refl r⟩
theorem J7.gd {c:F8}{bs:List UInt8}{t:Aj}(h:J7 c bs t):(D5 c).Ca bs↔0<cnt 0 t.ys/\t.deep<10:=by
 unfold Hl.Ca;rw[<-h.deep,show(D5 c).opn bs=(cnt 0 t.ys:Nat)from I8 h 0]
 omega
theorem PV.pick {c:F8}{bd m:Nat}{L:List Aj}{P:List ByteArray}(h:PV c bd m L P){k:Nat}{s:ByteArray}(hb:A0u (L.map JT.of) k)(hs:P[k]?=some s):(D5 c).Rf (P.map ByteArray.toList) s.toList:=by
 obtain⟨Z,rfl,rfl,hZ⟩:=h.zip
 rcases hb with⟨hb,_⟩ |⟨i,t,hb,ht,g1,g2,g3⟩
 ·omega
 ·obtain rfl:i=k:=by omega
  rw[Apv]at hs;obtain⟨q,hq,rfl⟩:=Ape.1 hs;rw[Apv,Apv,hq]at ht;obtain rfl:JT.of q.2=t:=by simpa using ht
  have hqa:=hZ q (Aq7 hq)
  refine⟨Aq5.2 ⟨q.1,Aq5.2 ⟨q,Aq7 hq,rfl⟩,rfl⟩,hqa.gd.2 ⟨g1,g2⟩,fun p hp hg=>?_⟩
  obtain⟨s',hs',rfl⟩:=Aq5.1 hp;obtain⟨v,hv,rfl⟩:=Aq5.1 hs';obtain⟨j,hj⟩:=Auq hv;have hva:=hZ v hv;have hvg:=hva.gd.1 hg;have hle:=g3 j (JT.of v.2) (by rw[Apv,Apv,hj];rfl) hvg.1 hvg.2
  have e1:(D5 c).opn q.1.toList=(cnt 0 q.2.ys:Nat):=I8 hqa 0;have e2:(D5 c).opn v.1.toList=(cnt 0 v.2.ys:Nat):=I8 hva 0
  change cnt 0 v.2.ys<=cnt 0 q.2.ys /\(j<i->cnt 0 v.2.ys<cnt 0 q.2.ys)at hle
  unfold Hl.ahead;rw[e1,e2]
  rcases Atk j i with hji|hji|hji
  ·exact .inr (.inl (by have:=hle.2 hji;omega))
  ·subst hji;rw[hq]at hj;injection hj with hj
   exact .inl (by rw[hj])
  ·rcases Asp (cnt 0 v.2.ys) (cnt 0 q.2.ys)with hc|hc
   ·exact .inr (.inl (by omega))
   ·refine .inr (.inr ⟨by omega,Left.less ?_⟩)
    have hl:=h.left;rw[Au6,List.pairwise_map,List.pairwise_iff_getElem]at hl;have h1:=(Apg.1 hq);have h2:=(Apg.1 hj);have:=hl i j h1.1 h2.1 hji;rw[h1.2,h2.2]at this
    exact this
theorem PV.fail {c:F8}{bd m:Nat}{L:List Aj}{P:List ByteArray}(h:PV c bd m L P)(hm:m<bd){s:List UInt8}(hp:(D5 c).Rf (P.map ByteArray.toList) s)(hs:¬(D5 c).sp s):(D5 c).Eu bd [[]] none:=by
 have e:bd-m=(bd-(m+1))+1:=by omega
 have hr:=h.run none (by rw[e];exact .fail _ _ s hp hs)
 obtain⟨r',h1,h2⟩:=hr
 cases r' with
 | none=>exact h1
 | some _=>exact h2.elim
theorem PV.ended {c:F8}{bd m:Nat}{L:List Aj}{P:List ByteArray}(h:PV c bd m L P)(hz:m=bd\/A0u (L.map JT.of) (-1)):∃G,(D5 c).Eu bd [[]] (some G) /\(P.map ByteArray.toList).Perm G:=by
 have h1:(D5 c).Eu (bd-m) (P.map ByteArray.toList) (some (P.map ByteArray.toList)):=by
  rcases hz with rfl|hz
  ·rw[Nat.sub_self];exact .zero _
  ·refine .stop _ _ fun q hq hg=>?_
   rcases hz with⟨_,hz⟩ |⟨i,_,e,_⟩
   ·obtain⟨Z,rfl,rfl,hZ⟩:=h.zip;obtain⟨s',hs',rfl⟩:=Aq5.1 hq;obtain⟨v,hv,rfl⟩:=Aq5.1 hs'
    exact hz (JT.of v.2) (Aq5.2 ⟨v.2,Aq5.2 ⟨v,hv,rfl⟩,rfl⟩) ((hZ v hv).gd.1 hg)
   ·omega
 obtain⟨r',h2,h3⟩:=h.run _ h1
 cases r' with
 | none=>exact h3.elim
 | some G=>exact⟨G,h2,h3⟩
theorem PV.next {c:F8}{bd m:Nat}{L L4:List Aj}{P P4:List ByteArray}(h:PV c bd m L P)(hm:m<bd){k:Nat}{s:ByteArray}(hs:P[k]?=some s)(hp:(D5 c).Rf (P.map ByteArray.toList) s.toList)(hsp:(D5 c).sp s.toList)
 (h4:P4.map ByteArray.toList=kids s.toList) (hl:L4.length=4) (ha:∀(j:Nat) t,L4[j]?=some t->j<4->J7 c (s.toList++[UInt8.ofNat (48+j)]) t):PV c bd (m+1) (L.take k++L4++L.drop (k+1)) (P.take k++P4++P.drop (k+1)):=by
 obtain⟨Z,rfl,rfl,hZ⟩:=h.zip;rw[Apv]at hs;obtain⟨q,hq,rfl⟩:=Ape.1 hs;have hk:=(Apg.1 hq).1
 have eZ:Z=Z.take k++q :: Z.drop (k+1):=by
  have:=(Apg.1 hq).2;rw[<-this,List.getElem_cons_drop,Atq]
 have eP:(Z.map (·.1)).map ByteArray.toList=((Z.map (·.1)).take k).map ByteArray.toList++q.1.toList ::((Z.map (·.1)).drop (k+1)).map ByteArray.toList:=by
  rw[<-List.map_take,<-List.map_drop]
  conv=>lhs;rw[eZ]
  simp
 have e':(((Z.map (·.1)).take k++P4 ++(Z.map (·.1)).drop (k+1)).map ByteArray.toList)=((Z.map (·.1)).take k).map ByteArray.toList++kids q.1.toList ++((Z.map (·.1)).drop (k+1)).map ByteArray.toList:=by
  rw[Aq2,Aq2,h4]
 have hP4:P4.length=4:=by
  have:=congrArg List.length h4;rw[Aqs]at this
  exact this
 refine⟨⟨Z.take k++P4.zip L4++Z.drop (k+1),?_,?_,fun v hv=>?_⟩,?_,hm,fun r hr=>?_⟩
 ·rw[Aq2,Aq2,List.map_take,List.map_drop]
  congr 2
  exact(List.map_fst_zip (by omega)).symm
 ·rw[Aq2,Aq2,List.map_take,List.map_drop]
  congr 2
  exact(List.map_snd_zip (by omega)).symm
 ·rcases Aq9.1 hv with hv|hv
  ·rcases Aq9.1 hv with hv|hv
   ·exact hZ v (At1 hv)
   ·obtain⟨j,hj⟩:=Auq hv;rw[List.getElem?_zip_eq_some]at hj;have hj4:j<4:=by have:=(Apg.1 hj.2).1;omega
    have h5:(P4.map ByteArray.toList)[j]?=some v.1.toList:=by rw[Apv,hj.1];rfl
    rw[h4]at h5;have h6:=congrArg List.head? (Xe q.1.toList hj4);rw[List.head?_drop,h5]at h6;injection h6 with h6
    rw[h6]
    exact ha j v.2 hj.2 hj4
  ·exact hZ v (At2 hv)
 ·rw[e'];have:=h.left;rw[eP]at this
  exact Tu this
 ·rw[e']at hr
  refine h.run r ?_
  rw[show bd-m=(bd-(m+1))+1 by omega]
  refine .step _ _ _ q.1.toList r hp hsp ?_ hr
  have h7:((Z.map (·.1)).map ByteArray.toList).Perm (q.1.toList ::(((Z.map (·.1)).take k).map ByteArray.toList ++((Z.map (·.1)).drop (k+1)).map ByteArray.toList)):=by
   rw[eP]
   exact List.perm_middle
  have h8:=h7.erase q.1.toList;rw[List.erase_cons_head]at h8
  refine List.Perm.trans ?_ (Ast _ h8.symm)
  rw[<-Ari]
  exact List.Perm.append_right _ Atr
end
end Go.Proofs.YtlfleicchbgcmaaGreat
