import Derived.Test.YtlfleicchbgcmaaGreatZq18
import Derived.Test.YtlfleicchbgcmaaGreatZq0
import Derived.Test.YtlfleicchbgcmaaGreatZqK
set_option linter.all false
set_option maxHeartbeats 16000000
set_option maxRecDepth 100000
namespace Go.Proofs.YtlfleicchbgcmaaGreat
section
open Go.RowKit Flo
theorem Y6 (c d:Nat)(n:Int)(w:World):Calls Vp.prog 72 #[.complex .f32 c d,.int .i64 n] w fun e w'=>(∃(k:Int) (a b:Nat),e=.returned (.tuple #[.int .i64 k,.complex .f32 a b])/\I5 (Qf c d) (Bm n) k /\(0<=k->Al .f32 (Er c d k.toNat).1 a/\Al .f32 (Er c d k.toNat).2 b))/\Aq w w':=by
 have hmb:=J1 n
 go_enter Vp.func72,Tryz.ntmps72
 go_wp2
 go_loopw [6,7] (fun z i wr=>∃k x y:Nat,k<=401/\i=.int .i64 k/\z=.complex .f32 x y/\x<4294967296/\y<4294967296/\Hid (Aq w wr)/\Hid (Al .f32 (Er c d k).1 x/\Al .f32 (Er c d k).2 y/\∀j,j<k->Qf c d j=true)) (fun _ i _=>(401-intOf i).toNat)
 case atStart=>exact⟨0,0,0,by omega,rfl,rfl,by omega,by omega,Aq.refl _,Al.refl _ _,Al.refl _ _,fun j hj=>by omega⟩
 case round =>
  obtain⟨k,x,y,hk,rfl,rfl,hx,hy,HD,HA⟩:=hrel;obtain⟨wo,rfl⟩:∃wo,wo=wr:=⟨_,rfl⟩
  go_wp2_with fail
  refine(Vr n _).mono ?_
  rintro e w1 ⟨rfl,rfl⟩
  by_cases hkr:(k:Int)<=Bm n
  ·obtain⟨p,q,w1,h1,_,_,d1,ap,aq⟩:=Flo.Ld (P:=Vp.prog) 23 103 (by kernel_rfl) (Vp.Di Tryz.underlying103) x y hx hy wo
   have H1:=Ai1 (HD.out.trans d1);clear d1
   go_wp2_with fail
   refine(Pv p q _).mono ?_
   rintro e w2 ⟨⟨m,rfl,hm,am⟩,hd⟩;have H2:=Ai1 (H1.out.trans hd)
   have HK:Hid (S9 m=Qf c d k):=by
    unfold Qf;rw[Lx HA.out.1,Lx HA.out.2.1,Sf ap aq]
    exact(A9o am).symm
   clear hd H1 HD h1 ap aq am;have hb:=HK.out;unfold S9 at hb
   cases ho:Qf c d k with
   | false =>
     rw[ho]at hb;have HR:Hid (I5 (Qf c d) (Bm n) k):=.inl ⟨k,rfl,hkr,ho,HA.out.2.2⟩;have HAA:Hid (Al .f32 (Er c d k).1 x/\Al .f32 (Er c d k).2 y):=⟨HA.out.1,HA.out.2.1⟩;clear ho HK HA
     go_wp2
     go_ret2
     exact⟨⟨_,x,y,rfl,HR.out,fun _=>by rw[Ajk];exact HAA.out⟩,H2.out⟩
   | true =>
     rw[ho]at hb;have ho':=ho;unfold Qf at ho';have e1:=Al.same HA.out.1 (Qo (Ni ho'));have e2:=Al.same HA.out.2.1 (Qo (Li ho'));subst e1 e2;have HO:=Ai1 ho'
     have HP:Hid (∀j,j<k+1->Qf c d j=true):=fun j hj=>by
      by_cases e:j=k
      ·rw[e];exact ho
      ·exact HA.out.2.2 j (by omega)
     clear ho ho' HK HA
     go_wp2_with fail
     refine(Yr _ _ c d hx hy HO.out _).mono ?_
     rintro e w3 ⟨⟨a,b,rfl,ha,hb',aa,ab⟩,hd⟩;have H3:=Ai1 (H2.out.trans hd);have HQ:Hid (Al .f32 (Er c d (k+1)).1 a/\Al .f32 (Er c d (k+1)).2 b/\∀j,j<k+1->Qf c d j=true):=⟨aa,ab,HP.out⟩;clear hd H2 aa ab HP HO
     go_wp2
     go_roundw
     case rel=>exact⟨k+1,a,b,by omega,by go_num,rfl,ha,hb',H3,HQ⟩
     case measure=>simp[intOf];omega
  ·have HR:Hid (I5 (Qf c d) (Bm n) (-1)):=.inr ⟨rfl,fun j hj=>HA.out.2.2 j (by omega)⟩
   go_wp2
   go_ret2
   exact⟨⟨_,x,y,rfl,HR.out,fun h=>by omega⟩,HD.out⟩
def smC (c d:Nat)(n:Int):Nat :=
 if A04 (Qf c d) (Bm n).toNat<0 then 3212836864
 else smK (A04 (Qf c d) (Bm n).toNat) (Bz (Ck (A9 (Er c d (A04 (Qf c d) (Bm n).toNat).toNat).1) (A9 (Er c d (A04 (Qf c d) (Bm n).toNat).toNat).2)))
theorem A05 {ok:Nat->Bool}{n k:Int}(h:I5 ok (Bm n) k):k=-1 \/(0<=k/\k<=400/\∀j:Nat,j<k.toNat->ok j=true):=by
 have hb:=J1 n
 rcases h with⟨m,rfl,h1,h2,h3⟩ |⟨rfl,h1⟩
 ·exact .inr ⟨by omega,by omega,fun j hj=>h3 j (by omega)⟩
 ·exact .inl rfl
theorem Al.id {k:FloatKind}{x a:Nat}(h:Al k x a)(g:nan k x=false):a=x:=by
 rcases h with rfl |⟨h1,h2⟩
 ·rfl
 ·rw[h1]at g;cases g
theorem U9 (c d:Nat)(n:Int)(hc:Bd 8 c)(hd:Bd 8 d)(w:World):Calls Vp.prog 59 #[.complex .f32 c d,.int .i64 n] w fun e w'=>e=.returned (.float .f32 (smC c d n))/\Below w.heap.size w w':=by
 have HC:=Ai1 hc;have HD:=Ai1 hd;clear hc hd
 go_enter Vp.func59,Tryz.ntmps59
 go_wp2_with fail
 refine(Abw c d n _).mono ?_
 rintro e w1 ⟨⟨k,nm,rfl,hk,hnm,hal⟩,hb⟩;have HB:=Ai1 hb;have he:=hk.A4;have hkc:=A05 hk;clear hb hk
 by_cases hk0:k<0
 ·have HS:Hid (smC c d n=3212836864):=by
   show _=_
   unfold smC;rw[<-he,Aij hk0]
  clear he hkc hal
  go_wp2
  exact Ai6 (v:=.float .f32 3212836864) (by simp[results,Tryz.f59,go_sem]) rfl ⟨by rw[HS.out],HB.out⟩
 ·obtain⟨g1,g2,g3⟩:=hkc.resolve_left (by omega)
  obtain⟨b1,b2⟩:=A9z HC.out HD.out g3;obtain⟨m,u,e1,e2,e3,e4⟩:=A5a b1 b2
  have hm:nm=m:=by
   have h:=hal g1;rw[e1]at h
   exact Al.id h e2
  subst hm;obtain⟨r1,r2⟩:=A1t (k:=k) (by omega) e4
  have HS:Hid (smC c d n=smK k u):=by
   show _=_
   unfold smC;rw[<-he,Aid hk0,e1];unfold Bz;rw[e3];rfl
  have q1:=fun w=>Ajy (P:=Vp.prog) w 129 74 .f64 .f32 nm u (by kernel_rfl) (Vp.Di Tryz.underlying74) e3
  have q2:=fun w=>Aj6 (P:=Vp.prog) w .quo 74 .f32 _ _ _ r1
  have q3:=fun w=>Aj6 (P:=Vp.prog) w .add 74 .f32 _ _ _ r2
  generalize Da .quo .f32 1082130432 u=q at *;generalize smK k u=s at *;clear r1 r2 e1 e2 e3 e4 b1 b2 g3 hal he hkc
  go_wp2
  exact Ai6 (v:=.float .f32 s) (by simp[results,Tryz.f59,go_sem]) rfl ⟨by rw[HS.out],HB.out⟩
theorem Ui (c d:Nat)(n:Int)(hc:Bd 8 c)(hd:Bd 8 d)(w:World):Calls Vp.prog 47 #[.complex .f32 c d,.int .i64 n] w fun e w'=>e=.returned (.float .f32 (smC c d n))/\Aq w w':=by
 have HC:=Ai1 hc;have HD:=Ai1 hd;clear hc hd
 go_enter Vp.func47,Tryz.ntmps47
 go_wp2_with fail
 refine(Y6 c d n _).mono ?_
 rintro e w1 ⟨⟨k,a,b,rfl,hk,hal⟩,hb⟩;have HB:=Ai1 hb;have he:=hk.A4;have hkc:=A05 hk;clear hb hk
 by_cases hk0:k<0
 ·have HS:Hid (smC c d n=3212836864):=by
   show _=_
   unfold smC;rw[<-he,Aij hk0]
  clear he hkc hal
  go_wp2
  exact Ai6 (v:=.float .f32 3212836864) (by simp[results,Tryz.f47,go_sem]) rfl ⟨by rw[HS.out],HB.out⟩
 ·obtain⟨g1,g2,g3⟩:=hkc.resolve_left (by omega)
  obtain⟨b1,b2⟩:=A9z HC.out HD.out g3;obtain⟨m,u,e1,e2,e3,e4⟩:=A5a b1 b2;obtain⟨h1,h2⟩:=hal g1;have ha:a=(Er c d k.toNat).1:=Al.id h1 b1.nan;have hb:b=(Er c d k.toNat).2:=Al.id h2 b2.nan;obtain⟨r1,r2⟩:=A1t (k:=k) (by omega) e4
  have HS:Hid (smC c d n=smK k u):=by
   show _=_
   unfold smC;rw[<-he,Aid hk0,e1];unfold Bz;rw[e3];rfl
  rw[<-ha,<-hb]at e1;have hal1:a<4294967296:=by rw[ha];exact(Qt c d _).1
  have hbl1:b<4294967296:=by rw[hb];exact(Qt c d _).2
  obtain⟨p,q,w2,c1,_,_,d1,ap,aq⟩:=Flo.Ld (P:=Vp.prog) 23 103 (by kernel_rfl) (Vp.Di Tryz.underlying103) a b hal1 hbl1 w1
  have HW:=Ai1 (HB.out.trans d1)
  have HN:Hid (∀x,Al .f64 (Ck p q) x->x=m):=fun x hx=>by
   rw[<-Sf ap aq,e1]at hx
   exact Al.id hx e2
  have q1:=fun w=>Ajy (P:=Vp.prog) w 129 74 .f64 .f32 m u (by kernel_rfl) (Vp.Di Tryz.underlying74) e3
  have q2:=fun w=>Aj6 (P:=Vp.prog) w .quo 74 .f32 _ _ _ r1
  have q3:=fun w=>Aj6 (P:=Vp.prog) w .add 74 .f32 _ _ _ r2
  generalize Da .quo .f32 1082130432 u=qq at *;generalize smK k u=s at *;clear r1 r2 e1 e2 e3 e4 b1 b2 g3 hal he hkc ha hb h1 h2 d1 ap aq hal1 hbl1
  go_wp2_with fail
  refine(Pv p q _).mono ?_
  rintro e w3 ⟨⟨x,rfl,_,ax⟩,hd⟩;have hx:=HN.out x ax;subst hx;have HZ:=Ai1 (HW.out.trans hd);clear hd ax
  go_wp2
  exact Ai6 (v:=.float .f32 s) (by simp[results,Tryz.f47,go_sem]) rfl ⟨by rw[HS.out],HZ.out⟩
end
section
open Go.RowKit
attribute [local go_sem ↓] Go.wp_at_zero Go.wp_at_succ
theorem Xh (x y d:Nat)(a b A B S:Int)(hd:d<=11)(hx:Flo.Pt x d a)(hy:Flo.Pt y d b)(ha:a.natAbs<=65536)(hb:b.natAbs<=65536)
 (hS:S=(2^(24-d):Nat)) (hA:A=a*S) (hB:B=b*S) (h1:-134217728<=A) (h2:A+S<=134217728) (h3:-134217728<=B) (h4:B+S<=134217728) (w:World) :
 Calls Vp.prog 58 #[.complex .f32 x y,.int .i64 d] w fun e w'=>e=.returned (.agg #[.int .i64 A,.int .i64 (A+S),.int .i64 B,.int .i64 (B+S)])/\Below w.heap.size w w':=by
 have hS0:0<S:=by rw[hS];have:=Aib (24-d);omega
 obtain⟨x1,x2,e1,e2,-,e3⟩:=Flo.O6 hd hx ha;obtain⟨y1,y2,d1,d2,-,d3⟩:=Flo.O6 hd hy hb;rw[<-hS,<-hA]at e3;rw[<-hS,<-hB]at d3;have g1:=fun w=>Ajy (P:=Vp.prog) w 74 129 .f32 .f64 _ _ (by kernel_rfl) (Vp.Di Tryz.underlying129) e1
 have g2:=fun w=>Aj6 (P:=Vp.prog) w .mul 129 .f64 _ _ _ e2
 have g3:=fun w=>Amf (P:=Vp.prog) w 129 3 .f64 .i64 _ _ (by kernel_rfl) (Vp.Di Tryz.underlying3) e3
 have g4:=fun w=>Ajy (P:=Vp.prog) w 74 129 .f32 .f64 _ _ (by kernel_rfl) (Vp.Di Tryz.underlying129) d1
 have g5:=fun w=>Aj6 (P:=Vp.prog) w .mul 129 .f64 _ _ _ d2
 have g6:=fun w=>Amf (P:=Vp.prog) w 129 3 .f64 .i64 _ _ (by kernel_rfl) (Vp.Di Tryz.underlying3) d3
 have hsd:(16777216:Int) / 2^d=S:=by rw[hS];exact Mu d hd
 obtain⟨A2,k1,e4⟩:∃x,wrap64 (A+S)=x/\A+S=x:=⟨_,Fw (by omega) (by omega),rfl⟩
 obtain⟨B2,k2,e5⟩:∃x,wrap64 (B+S)=x/\B+S=x:=⟨_,Fw (by omega) (by omega),rfl⟩
 rw[e4,e5];clear e4 e5;have HO:Hid (∀u0 u1 u2 u3:Value,Below w.heap.size w (w.alloc (.cells #[u0,u1,u2,u3] 93))):=fun u0 u1 u2 u3=>(Aik _ w).alloc (Ai3 _) _
 have R:=A8.new w #[.int .i64 A,.int .i64 A2,.int .i64 B,.int .i64 B2] 93;have r0:=R.cell 0 _ rfl;have r1:=R.cell 1 _ rfl;have r2:=R.cell 2 _ rfl;have r3:=R.cell 3 _ rfl;clear e1 e2 e3 d1 d2 d3 hx hy ha hb hS hA hB h1 h2 h3 h4 R
 go_enter Vp.func58,Tryz.ntmps58
 go_wp2
 exact Ai6 (v:=.agg #[.int .i64 A,.int .i64 A2,.int .i64 B,.int .i64 B2]) (by simp[results,Tryz.f58,go_sem,k1,k2]) rfl ⟨rfl,HO.out _ _ _ _⟩
end
namespace Bar
open Go.Conc Tl Lr
inductive Sub (P:Program):St->St->Prop
 | refl (x:St):Sub P x x
 | step {x x' y:St} (τ:Tape) (d:Nat):Z4 P (x.at τ d) x'->Sub P x' y->Sub P x y
section
variable {P : Program} {F J : St -> Prop}
theorem Ade {M:St->Prop}(hp:∀x,F x->Uv x)(h0:∀x,F x->M x)(hs:∀x (g:Tape->Nat->St),(∀τ d,Z4 P (x.at τ d) (g τ d)) ->(∀τ d,Way P F (g τ d)) ->(∀τ d y,Sub P (g τ d) y->M y)->M x){x:St}(h:Way P F x):∀y,Sub P x y->M y:=by
 induction h with
 | @fin x h =>
   intro y hy
   cases hy with
   | refl=>exact h0 x h
   | step τ d g _=>exact absurd (show Uv (x.at τ d)from hp x h) g.Ln
 | @go x g hg hw ih =>
   intro y hy
   cases hy with
   | refl=>exact hs x g hg hw ih
   | @step _ x' _ τ d g' k =>
     obtain rfl:=(hg τ d).inj g'
     exact ih τ d y k
end
end Bar
namespace Lr
open Go.Conc Tl Bar
variable {X : Cx} {B : Lk} {V W V' W' : World}
theorem A64 (hw:WR X B V W)(hV:V.heap.size<=V'.heap.size)(hVk:∀b,b<V.heap.size->V'.heap[b]?=V.heap[b]?)(hW:W.heap.size<=W'.heap.size)(hWk:∀b,b<W.heap.size->W'.heap[b]?=W.heap[b]?)
 (ht:W'.tape=V'.tape) (hd:W'.drawn=V'.drawn) (ho:W'.os=V'.os) (hu:W'.output=V'.output):WR X B V' W':=by
 refine{ tape:=ht,drawn:=hd,os:=ho,output:=hu,fn:=hw.fn,inj:=hw.inj,Hm:=hw.Hm,live:=?_,Ip:=?_,dead:=?_,Vc:=fun b h=>Ai9 (hw.Vc b h) hV,Rw:=fun b h=>Ai9 (hw.Rw b h) hV,low:=hw.low,nV:=Ai5 hw.nV hV,nW:=Ai5 hw.nW hW }
 ·intro b b' h hd hf;obtain⟨o,o',h1,h2,h3⟩:=hw.live b b' h hd hf
  exact⟨o,o',(hVk b (hw.Vw h)).trans h1,(hWk b' (hw.ltW h)).trans h2,h3⟩
 ·intro b b' h hd hf;obtain⟨x,x',t,t',f,h1,h2,h3⟩:=hw.Ip b b' h hd hf
  exact⟨x,x',t,t',f,(hVk b (hw.Vw h)).trans h1,(hWk b' (hw.ltW h)).trans h2,h3⟩
 ·intro b b' h hd;obtain⟨⟨t,h1⟩,h2⟩:=hw.dead b b' h hd
  exact⟨⟨t,(hVk b (hw.Vw h)).trans h1⟩,Ai9 h2 hW⟩
theorem Abd (hw:WR X B V W){s s':Nat}{C:Array Value}{t:TypeId}(hs:∀y,¬B s y)(hs':∀x,¬B x s')(hV:V.heap[s]?=some (.cells C t (0,0)))(hW:W.heap[s']?=some (.cells C t (0,0)))(hC:∀v∈C,Flat X v)(hd:¬X.D s)(hf:¬X.F s)(hN:X.N<=s)(hN':X.N<=s') :
 WR X (fun b b'=>B b b' \/(b=s/\b'=s')) V W:=by
 have hle:Le B (fun b b'=>B b b' \/(b=s/\b'=s')):=fun _ _ h=>.inl h
 refine{ tape:=hw.tape,drawn:=hw.drawn,os:=hw.os,output:=hw.output,fn:=?_,inj:=?_,Hm:=fun g hg=>.inl (hw.Hm g hg),live:=?_,Ip:=?_,dead:=?_,Vc:=hw.Vc,Rw:=hw.Rw,low:=?_,nV:=hw.nV,nW:=hw.nW }
 ·rintro b b₁ b₂ (h1 |⟨rfl,rfl⟩) (h2 |⟨h3,rfl⟩)
  ·exact hw.fn _ _ _ h1 h2
  ·subst h3;exact absurd h1 (hs _)
  ·exact absurd h2 (hs _)
  ·rfl
 ·rintro b₁ b₂ b' (h1 |⟨rfl,rfl⟩) (h2 |⟨rfl,h3⟩)
  ·exact hw.inj _ _ _ h1 h2
  ·subst h3;exact absurd h1 (hs' _)
  ·exact absurd h2 (hs' _)
  ·rfl
 ·rintro b b' (h |⟨rfl,rfl⟩) hd' hf'
  ·obtain⟨o,o',h1,h2,h3⟩:=hw.live b b' h hd' hf'
   exact⟨o,o',h1,h2,h3.mono hle⟩
  ·refine⟨_,_,hV,hW,.cells t _ ⟨rfl,fun i v v' h1 h2=>?_⟩⟩
   rw[h1]at h2
   cases h2
   exact hC v (Aj2 h1) _
 ·rintro b b' (h |⟨rfl,rfl⟩) hd' hf'
  ·obtain⟨x,x',t,t',f,h1,h2,h3⟩:=hw.Ip b b' h hd' hf'
   exact⟨x,x',t,t',f,h1,h2,⟨h3.1.mono hle,h3.2⟩⟩
  ·exact absurd hf' hf
 ·rintro b b' (h |⟨rfl,rfl⟩) hd'
  ·exact hw.dead b b' h hd'
  ·exact absurd hd' hd
 ·rintro b b' (h |⟨rfl,rfl⟩)
  ·exact hw.low b b' h
  ·omega
end Lr
namespace Co
open Go Go.Conc
def Ro (P:Program){α:Type}(s:Sem α):Prop:=∀w v w1,s.run P w=.ok v w1->w1=w
section
variable {P : Program}
theorem Ro.pure {α:Type}(a:α):Ro P (Pure.pure a:Sem α):=by
 intro w v w1 h;simp at h
 exact h.2.symm
theorem Ro.bind {α β:Type}{s:Sem α}{f:α->Sem β}(h:Ro P s)(k:∀a,Ro P (f a)):Ro P (s >>= f):=by
 intro w v w1 e;simp only[Sem.run_bind]at e
 cases hs:s.run P w with
 | ok a w2 =>
   rw[hs]at e;rw[h w a w2 hs]at e
   exact k a w v w1 e
 | halt a w2=>rw[hs]at e;cases e
theorem Ro.load (a:Addr):Ro P (load a):=by
 intro w v w1 h;simp only[Go.load,Sem.run]at h
 repeat' split at h
 all_goals first
  |(injection h with _ h;exact h.symm)
  |(cases h;done)
theorem Ro.asAddr (v:Value):Ro P (asAddr v):=by
 intro w x w1 h;unfold Go.asAddr at h
 split at h<;>simp[runtimePanic]at h
 exact h.2.symm
theorem Ro.underlying (t:TypeId):Ro P (underlying t):=by
 intro w x w1 h;simp[Go.underlying]at h
 split at h<;>simp at h
 exact h.2.symm
theorem Ro.typeInfo (t:TypeId):Ro P (typeInfo t):=by
 intro w x w1 h;simp[Go.typeInfo]at h
 split at h<;>simp at h
 exact h.2.symm
theorem Ro.loadCellsFrom (a:Addr):∀(n i:Nat) (acc:Array Value),Ro P (loadCellsFrom a i n acc)
 | 0,i,acc=>Ro.pure acc
 | n+1,i,acc=>by
   unfold Go.loadCellsFrom
   exact Ro.bind (Ro.load _) fun v=>Ro.loadCellsFrom a n (i+1) _
theorem Ro.isAgg (t:TypeId):Ro P (isAgg t):=by
 unfold Go.isAgg
 refine Ro.bind (Ro.underlying t) fun d=>?_
 split<;>exact Ro.pure _
theorem Ro.loadVar (t:TypeId)(a:Addr):Ro P (loadVar t a):=by
 unfold Go.loadVar
 refine Ro.bind (Ro.isAgg t) fun b=>?_
 split
 ·refine Ro.bind ?_ fun n=>Ro.bind (Ro.loadCellsFrom a _ 0 #[]) fun _=>Ro.pure _
  unfold Go.sizeOf
  exact Ro.bind (Ro.typeInfo t) fun _=>Ro.pure _
 ·exact Ro.load a
theorem Ro.mapM {α β:Type}{f:α->Sem β}(h:∀a,Ro P (f a)):∀l:List α,Ro P (l.mapM f)
 | []=>by simpa using Ro.pure (P:=P) ([]:List β)
 | a :: l=>by
   rw[List.mapM_cons]
   exact Ro.bind (h a) fun _=>Ro.bind (Ro.mapM h l) fun _=>Ro.pure _
theorem Ro.results (fn:Func)(t:Array Value):Ro P (results fn t):=by
 unfold Go.results;rw[Amr]
 refine Ro.bind ?_ fun vs=>Ro.pure _
 rw[map_eq_pure_bind]
 refine Ro.bind (Ro.mapM (fun x=>?_) _) fun _=>Ro.pure _
 cases x with
 | tmp i=>exact Ro.pure _
 | cell a ty=>exact Ro.bind (Ro.asAddr _) fun q=>Ro.loadVar _ _
end
end Co
section
open Go
theorem Ach {P:Program}{t:TypeId}(v:Value):(∃n,v=.int .i64 n)\/∀w,∃s,(binOp .mul t v (.int .i64 0)).run P w=.halt s w /\((∃m,s=.stuck m)\/s=.unsupported .addressObserved):=by
 unfold binOp
 cases v<;>simp
 split
 ·subst_vars
  exact .inl rfl
 ·exact .inr (by simp)
open Go.Conc Bar Co
theorem A2b {P:Program}{F:St->Prop}(hF:∀x,F x->Uv x){x:St}(h:Bar.Way P F x)(hp:¬Uv x)(τ:Tape)(d:Nat):∃x',Z4 P (x.at τ d) x'/\Bar.Way P F x':=by
 cases h with
 | fin h=>exact absurd (hF x h) hp
 | go g hg hw=>exact⟨g τ d,hg τ d,hw τ d⟩
theorem L3 {P:Program}{F:St->Prop}(hF:∀x,F x->Uv x){b:Frame}{a:Act}{ops:Array Oper}{i:Nat}{rest:List Nat}{k:List Item}{cs:List Frame}{V:World}{o:Oper}(ho:ops[i]?=some o)(hg:o.guard=none)(hk:b.kind≠.early){v:Value}
 (hr:(∀w,(execOp a.eval o).run P w=.ok (.value v) w)\/∀w,∃s,(execOp a.eval o).run P w=.halt s w /\((∃m,s=.stuck m)\/s=.unsupported .addressObserved)) (h:Bar.Way P F ⟨b.at a (.inRegion ops (i :: rest) :: k),cs,V⟩) :
 (∀w,(execOp a.eval o).run P w=.ok (.value v) w)/\Bar.Way P F ⟨b.at (a.put o.dst v) (.inRegion ops rest :: k),cs,V⟩:=by
 obtain⟨x',⟨es,hgo⟩,hw⟩:=A2b hF h (fun hp=>hp.2.1 rfl) V.tape V.drawn
 have hgo:stepG P true (G (b.at a (.inRegion ops (i :: rest) :: k)) (cs++[wall P])) V=_:=hgo
 rcases hr with hr|hr
 ·refine⟨hr,?_⟩
  rw[stepG_value ho (by simp[Region.wanted,hg]) hk (hr V)]at hgo
  injection hgo with h1 h2 _
  injection h1 with h3 h4 _ _
  have h5:cs=x'.cs:=Ak2 h4;clear h4;obtain⟨x1,x2,x3⟩:=x';dsimp only at h2 h3 h5;subst h2 h3 h5
  exact hw
 ·exfalso
  obtain⟨s,hr,hs⟩:=hr V;rw[stepG_oper ho (by simp[Region.wanted,hg])]at hgo
  rcases hs with⟨m,rfl⟩|rfl
  ·simp[stepG.apply,hr,GStep.after]at hgo
  ·simp[stepG.apply,hr,GStep.after]at hgo
theorem A62 {P:Program}{F:St->Prop}(hF:∀x,F x->Uv x){fr fr1:Frame}{cs cs1:List Frame}{V:World}{es:Array Event}(hm:fr.mode=.run)(hst:stepG P true (G fr (cs++[wall P])) V=.go (G fr1 (cs1++[wall P])) V es)(h:Bar.Way P F ⟨fr,cs,V⟩):Bar.Way P F ⟨fr1,cs1,V⟩:=by
 obtain⟨x',⟨es',hgo⟩,hw⟩:=A2b hF h (fun hp=>hp.2.1 hm) V.tape V.drawn
 have hgo:stepG P true (G fr (cs++[wall P])) V=_:=hgo;rw[hst]at hgo;injection hgo with h1 h2 _
 injection h1 with h3 h4 _ _
 have h5:cs1=x'.cs:=Ak2 h4;clear h4;obtain⟨x1,x2,x3⟩:=x';dsimp only at h2 h3 h5;subst h2 h3 h5
 exact hw
end
section
open Go.Conc Bar Co
theorem Aej {P:Program}{a:Act}{o:Oper}{i:Nat}{t t':TypeId}(hop:o.op=.binOp .mul t (.tmp i) (.const (.int .i64 0)) t') :
 (∃n,a.eval (.tmp i)=.int .i64 n/\∃v,∀w,(execOp a.eval o).run P w=.ok (.value v) w)\/∀w,∃s,(execOp a.eval o).run P w=.halt s w /\((∃m,s=.stuck m)\/s=.unsupported .addressObserved):=by
 have ec:a.eval (.const (.int .i64 0))=.int .i64 0:=rfl
 rcases Ach (P:=P) (t:=t) (a.eval (.tmp i))with⟨n,h⟩|h
 ·refine .inl ⟨n,h,?_⟩
  unfold execOp;simp only[hop];rw[ec,h];simp[eqGuard,binOp,Op.intArith]
 ·refine .inr fun w=>?_
  obtain⟨s,h1,h2⟩:=h w
  refine⟨s,?_,h2⟩
  unfold execOp;simp only[hop];rw[ec];simp[eqGuard,h1]
theorem Agp {P:Program}{a:Act}{o:Oper}{i:Nat}{ts:Array TypeId}(hop:o.op=.call { callee:=.builtin .real,args:=#[.tmp i],argTypes:=ts }) :
 (∃k x y,a.eval (.tmp i)=.complex k x y/\∀w,(execOp a.eval o).run P w=.ok (.value (.float k x)) w)\/∀w,∃s,(execOp a.eval o).run P w=.halt s w /\((∃m,s=.stuck m)\/s=.unsupported .addressObserved):=by
 have yes:∀(k:FloatKind) (x y:Nat) (t:TypeId),Builtin.real_ ts t #[.complex k x y]=pure (.float k x):=fun _ _ _ _=>rfl
 have no:∀(v:Value) (t:TypeId),(∀k x y,v≠.complex k x y)->∃m,Builtin.real_ ts t #[v]=stuck m:=fun v t h=>by
  cases v<;>first
   | exact absurd rfl (h _ _ _)
   | exact⟨_,rfl⟩
 have key:∀w,(execOp a.eval o).run P w=(do pure (Next.value (<-Builtin.real_ ts o.type #[a.eval (.tmp i)]))).run P w:=fun w=>by
  unfold execOp;simp only[hop];simp only[resolve,invoke,builtin,Amb,Ak4,Ald,pure_bind]
 by_cases h:∃k x y,a.eval (.tmp i)=.complex k x y
 ·obtain⟨k,x,y,h⟩:=h
  exact .inl ⟨k,x,y,h,fun w=>by rw[key,h,yes];simp⟩
 ·obtain⟨m,hm⟩:=no (a.eval (.tmp i)) o.type fun k x y e=>h ⟨k,x,y,e⟩
  exact .inr fun w=>⟨.stuck m,by rw[key,hm];simp,.inl ⟨_,rfl⟩⟩
theorem Ahj {P:Program}{a:Act}{o:Oper}{i:Nat}{t t':TypeId}(hop:o.op=.binOp .lss t (.tmp i) (.const (.float .f32 0)) t'){k:FloatKind}{x:Nat}(hv:a.eval (.tmp i)=.float k x) :
 (k=.f32/\∃v,∀w,(execOp a.eval o).run P w=.ok (.value v) w)\/∀w,∃s,(execOp a.eval o).run P w=.halt s w /\((∃m,s=.stuck m)\/s=.unsupported .addressObserved):=by
 have ec:a.eval (.const (.float .f32 0))=.float .f32 0:=rfl;unfold execOp;simp only[hop];rw[ec,hv]
 cases k with
 | f32=>exact .inl ⟨rfl,by simp[eqGuard,binOp,Op.floatCmp]⟩
 | f64=>exact .inr fun w=>by simp[eqGuard,binOp]
theorem Tq {P:Program}{F:St->Prop}(hF:∀x,F x->Uv x){b:Frame}{a:Act}{ops:Array Oper}{i:Nat}{rest:List Nat}{k:List Item}{cs:List Frame}{V:World}{o:Oper}(ho:ops[i]?=some o)(hg:o.guard=none)(hk:b.kind≠.early)
 (hr:∀w,∃s,(execOp a.eval o).run P w=.halt s w /\((∃m,s=.stuck m)\/s=.unsupported .addressObserved)) (h:Bar.Way P F ⟨b.at a (.inRegion ops (i :: rest) :: k),cs,V⟩):False:=by
 have h1:=(L3 hF ho hg hk (v:=undef) (.inr hr) h).1 V;obtain⟨s,h2,_⟩:=hr V;rw[h1]at h2
 cases h2
noncomputable def vB:Code:=Vp.fT.body.getD .skip
noncomputable def vK:Code:=match vB with|.seq _ k=>k|_=>.skip
theorem Ah0:vB=.seq (.region 90 Vp.guards false) vK:=by
 unfold vK vB;rw[Vp.Ado]
 cases h:Tryz.f18.body with
 | none=>have:Tryz.f18.body.isNone=false:=by kernel_rfl
         rw[h]at this;cases this
 | some c=>rfl
theorem Adc:Vp.fT.body=some vB:=by
 unfold vB
 cases h:Vp.fT.body with
 | none =>
   rw[Vp.Ado]at h;have:Tryz.f18.body.isNone=false:=by kernel_rfl
   cases h':Tryz.f18.body with
   | none=>rw[h']at this;cases this
   | some c=>rw[h']at h;cases h
 | some c=>rfl
def bV:Frame:={ fn:=15,tmps:=#[],todo:=[],defers:=[],mode:=.run,kind:=.normal }
theorem Abu (p:Array Value):Frame.enter Vp.prog 15 p .normal=bV.at ⟨p++Array.replicate (81-p.size) undef,[]⟩ [.code vB]:=by
 unfold Frame.enter;rw[Vp.Pk];dsimp only[Option.map_some,Option.getD_some,Option.bind_some];rw[Vp.A3h,Adc]
 rfl
theorem Aak {F:St->Prop}(hF:∀x,F x->Uv x){p:Array Value}(hs:p.size=4){cs:List Frame}{V:World}(h:Bar.Way Vp.prog F ⟨Frame.enter Vp.prog 15 p .normal,cs,V⟩) :
 ∃(x y:Nat) (a b m:Int),p=#[.complex .f32 x y,.int .i64 a,.int .i64 b,.int .i64 m]:=by
 rw[Abu,Ah0]at h;have h:=A62 hF rfl stepG_seq h;have h:=A62 hF rfl stepG_region h;have hr:List.range Vp.guards.size=[0,1,2,3,4]:=rfl;rw[hr]at h;generalize hT:p++Array.replicate (81-p.size) undef=T at h;have hTs:T.size=81:=by rw[<-hT];simp;omega
 have hTk:∀k,k<4->T[k]?=p[k]?:=fun k hk=>by rw[<-hT,Alk (by omega)]
 clear hT;have hk:bV.kind≠.early:=by simp[bV]
 have ev:∀(A:Act) (j:Nat),A.eval (.tmp j)=A.tmps.getD j undef:=fun A j=>rfl
 obtain⟨p0,e0⟩:∃v,p[0]?=some v:=⟨_,Ai8 (by omega)⟩
 obtain⟨p1,e1⟩:∃v,p[1]?=some v:=⟨_,Ai8 (by omega)⟩
 obtain⟨p2,e2⟩:∃v,p[2]?=some v:=⟨_,Ai8 (by omega)⟩
 obtain⟨p3,e3⟩:∃v,p[3]?=some v:=⟨_,Ai8 (by omega)⟩
 have hp:p=#[p0,p1,p2,p3]:=by
  apply Ala
  intro i
  match i with
  | 0=>exact e0
  | 1=>exact e1
  | 2=>exact e2
  | 3=>exact e3
  | i+4=>rw[Al9 (by omega)];rfl
 have gt:∀(A:Act) (j:Nat) (v:Value),A.tmps[j]?=some v->A.eval (.tmp j)=v:=fun A j v hv=>by rw[ev,Aio,hv];rfl
 rcases Agp (P:=Vp.prog) (a:=⟨T,[]⟩) (o:=Vp.guards[0]) (i:=0) rfl with⟨k,x,y,v0,r0⟩|r0
 case inr=>exact(Tq hF (ops:=Vp.guards) (i:=0) rfl rfl hk r0 h).elim
 have h:=(L3 hF (ops:=Vp.guards) (i:=0) rfl rfl hk (.inl r0) h).2;have z0:p0=.complex k x y:=by rw[<-v0];exact(gt _ _ _ ((hTk 0 (by decide)).trans e0)).symm
 have hd0:Vp.guards[0].dst=some 76:=rfl;rw[hd0]at h;have s1:(⟨T,[]⟩:Act).put (some 76) (.float k x)=⟨T.setIfInBounds 76 (.float k x),[]⟩:=rfl;rw[s1]at h
 rcases Ahj (P:=Vp.prog) (a:=⟨T.setIfInBounds 76 (.float k x),[]⟩) (o:=Vp.guards[1]) (i:=76) rfl (gt _ 76 (.float k x) (Aic (by omega)))with⟨rfl,v1,r1⟩|r1
 case inr=>exact(Tq hF (ops:=Vp.guards) (i:=1) rfl rfl hk r1 h).elim
 have h:=(L3 hF (ops:=Vp.guards) (i:=1) rfl rfl hk (.inl r1) h).2;have hd1:Vp.guards[1].dst=some 80:=rfl;rw[hd1]at h;have s2:(⟨T.setIfInBounds 76 (.float .f32 x),[]⟩:Act).put (some 80) v1=⟨(T.setIfInBounds 76 (.float .f32 x)).setIfInBounds 80 v1,[]⟩:=rfl;rw[s2]at h;generalize hU:(T.setIfInBounds 76 (.float .f32 x)).setIfInBounds 80 v1=U at h;have hUk:∀j,j<4->U[j]?=T[j]?:=fun j hj=>by rw[<-hU,Ai4 (by omega),Ai4 (by omega)]
 clear hU
 rcases Aej (P:=Vp.prog) (a:=⟨U,[]⟩) (o:=Vp.guards[2]) (i:=1) rfl with⟨a,va,u2,r2⟩|r2
 case inr=>exact(Tq hF (ops:=Vp.guards) (i:=2) rfl rfl hk r2 h).elim
 have h:=(L3 hF (ops:=Vp.guards) (i:=2) rfl rfl hk (.inl r2) h).2;have hd2:Vp.guards[2].dst=some 77:=rfl;rw[hd2]at h;have s3:(⟨U,[]⟩:Act).put (some 77) u2=⟨U.setIfInBounds 77 u2,[]⟩:=rfl;rw[s3]at h
 rcases Aej (P:=Vp.prog) (a:=⟨U.setIfInBounds 77 u2,[]⟩) (o:=Vp.guards[3]) (i:=2) rfl with⟨b,vb,u3,r3⟩|r3
 case inr=>exact(Tq hF (ops:=Vp.guards) (i:=3) rfl rfl hk r3 h).elim
 have h:=(L3 hF (ops:=Vp.guards) (i:=3) rfl rfl hk (.inl r3) h).2;have hd3:Vp.guards[3].dst=some 78:=rfl;rw[hd3]at h;have s4:(⟨U.setIfInBounds 77 u2,[]⟩:Act).put (some 78) u3=⟨(U.setIfInBounds 77 u2).setIfInBounds 78 u3,[]⟩:=rfl;rw[s4]at h
 rcases Aej (P:=Vp.prog) (a:=⟨(U.setIfInBounds 77 u2).setIfInBounds 78 u3,[]⟩) (o:=Vp.guards[4]) (i:=3) rfl with⟨m,vm,u4,r4⟩|r4
 case inr=>exact(Tq hF (ops:=Vp.guards) (i:=4) rfl rfl hk r4 h).elim
 have z1:p1=.int .i64 a:=by rw[<-va];exact(gt _ _ _ ((hUk 1 (by decide)).trans ((hTk 1 (by decide)).trans e1))).symm
 have z2:p2=.int .i64 b:=by rw[<-vb];exact(gt _ _ _ ((Ai4 (by decide)).trans ((hUk 2 (by decide)).trans ((hTk 2 (by decide)).trans e2)))).symm
 have z3:p3=.int .i64 m:=by rw[<-vm];exact(gt _ _ _ ((Ai4 (by decide)).trans ((Ai4 (by decide)).trans ((hUk 3 (by decide)).trans ((hTk 3 (by decide)).trans e3))))).symm
 exact⟨x,y,a,b,m,by rw[hp,z0,z1,z2,z3]⟩
end
namespace Co
open Go.Conc Tl Lr Bar
open Go.ConcN (sumTo)
def Ends (P:Program)(Post:Value->World->Prop)(gs:Array Goroutine)(w:World)(sl:Option (Nat×Nat))(t:Trace):Prop :=
 ∃N last o w' t',runNT P (N+1) (crowd gs w sl) t=(.ended o w',t')/\runN P N (crowd gs w sl)=.next last/\step P last=.ended o w'/\Conc.Good P Post last o w' t'
theorem Ends.ran {P:Program}{Post:Value->World->Prop}{gs gs':Array Goroutine}{w w':World}{sl sl':Option (Nat×Nat)}{t t':Trace}(h:Jz P gs w sl t gs' w' sl' t')(k:Ends P Post gs' w' sl' t'):Ends P Post gs w sl t:=by
 obtain⟨M,h⟩:=h;obtain⟨N,last,o,w1,t1,h1,h2,h3,h4⟩:=k
 refine⟨M+N,last,o,w1,t1,by rw[Nat.add_assoc,runNT_add,h];exact h1,?_,h3,h4⟩
 have e:runNT P (M+N) (crowd gs w sl) t=runNT P N (crowd gs' w' sl') t':=by rw[runNT_add,h]
 rw[<-runNT_fst _ _ _ t,e,runNT_fst]
 exact h2
structure Kept (X:Cx)(m0:Nat)(w0:World)(B:Lk)(w:World):Prop where
 low:∀x y,B x y->¬X.F x->m0<=y
 size:m0<=w.heap.size
 old:∀x,x<m0->w.heap[x]?=w0.heap[x]?
 tape:w.tape=w0.tape
 os:w.os=w0.os/\w.output=w0.output
theorem Kept.at {X:Cx}{m0:Nat}{w0 w:World}{B:Lk}(h:Kept X m0 w0 B w)(d:Nat):Kept X m0 w0 B (w.at d):=⟨h.low,h.size,h.old,h.tape,h.os⟩
theorem Kept.step {X:Cx}{m0:Nat}{w0 w V V1 W1:World}{B B':Lk}{n:Array Event}(h:Kept X m0 w0 B w)(hx:Ext X B V w B' V1 W1)(hd:Did (G2 X B) (Ka X B) w (G2 X B') W1 n):Kept X m0 w0 B' W1 where
 low x y k hf:=(hx.new x y k).elim (fun z=>h.low x y z hf) fun z=>Ai5 h.size z.2
 size:=Ai5 h.size hd.size
 old x k:=(hd.kept x (Ai9 k h.size) fun⟨a,h1,_,hf⟩=>Nat.not_le.2 k (h.low a x h1 hf)).trans (h.old x k)
 tape:=hd.tape.trans h.tape
 os:=⟨hd.os.1.trans h.os.1,hd.os.2.trans h.os.2⟩
def Sim (X:Cx)(P':Program)(m0:Nat)(w0:World)(Post:Value->World->Prop)(x:St):Prop :=
 ∀(B:Lk) (τ:Tape) (d:Nat) (gs:Array Goroutine) (w:World) (sl:Option (Nat×Nat)) (t:Trace) (q:Nat->Nat) (fr':Frame) (cs':List Frame),WR X B (x.at τ d).V w->Ee X B x.fr fr'->L8 X B x.cs cs'->Gv x.fr x.cs=none->Kept X m0 w0 B w ->
  gs[0]?=some (G fr' cs')->Leavers P' t gs q->Past (fun _=>False) w.heap.size t->Ends P' Post gs w sl t
def A8f (X:Cx)(P P':Program)(F:St->Prop)(m0:Nat)(w0:World)(Post:Value->World->Prop):Prop :=
 ∀(f:FuncId) (p p':Array Value) (c:Frame) (cs:List Frame) (V:World) (B:Lk) (gs:Array Goroutine) (w:World) (sl:Option (Nat×Nat)) (t:Trace) (q:Nat->Nat) (cs':List Frame),X.T f/\X.Ar f p.size->Bar.Way P F ⟨Frame.enter P f p .normal,c :: cs,V⟩ ->(∀y,Bar.Sub P ⟨Frame.enter P f p .normal,c :: cs,V⟩ y->Sim X P' m0 w0 Post y) ->
  Gv (Frame.enter P f p .normal) (c :: cs)=none->Kept X m0 w0 B w->WR X B V w->AR X B p p'->L8 X B (c :: cs) cs'->gs[0]?=some (G (Frame.enter P' f p' .normal) cs')->Leavers P' t gs q->Past (fun _=>False) w.heap.size t->Ends P' Post gs w sl t
section
variable {X : Cx} {P P' : Program} {F : St -> Prop} {m0 : Nat} {w0 : World} {Post : Value -> World -> Prop}
theorem Aam (H:Whole X P P')(hDn:¬X.Dn)(hpart:A8f X P P' F m0 w0 Post)(x:St)(g:Tape->Nat->St)(hg:∀τ d,Z4 P (x.at τ d) (g τ d))(hway:∀τ d,Bar.Way P F (g τ d))(ih:∀τ d y,Bar.Sub P (g τ d) y->Sim X P' m0 w0 Post y):Sim X P' m0 w0 Post x:=by
 intro B τ d gs w sl t q fr' cs' hw hf hc hb hkp h0 hL hP;obtain⟨N5,gs5,d5,sl5,t5,q5,j1,j2,j3,j4,j5,_,d6,sl6,j6⟩:=Qv (P:=P') (sumTo gs.size q) gs w sl t q rfl h0 hL hP;have hw3:WR X B (x.at w.tape d6).V (w.at d6):=A2d hw w.tape d6;have hgo:=hg w.tape d6;have hp:=hgo.Ln;have hd1:=ih w.tape d6;have hd2:=hway w.tape d6;generalize g w.tape d6=z at hgo hd1 hd2;obtain⟨es,hgo⟩:=hgo;obtain⟨c1,c1',fr1',B',W1,n,e1,e2,hx,hw1,hn,hst⟩:=(Yv H hw3 (base:=[wall P]) (base':=[]) hf hc (Vj hp hb) true true).1 _ _ _ _ hgo;obtain rfl:=Ak2 e1;have hbt:=(Th H hw3 (base:=[wall P]) hf hc (Vj hp hb) true _ _ _ _ hgo).trans hb;rw[Aly,Aly]at e2;have hdid:=Xp hw3 hw1 hx hn;have hkp1:=(hkp.at d6).step hx hdid;obtain⟨gs7,ops,i1,i2,i3,i4,i5⟩:=Ov (sl:=sl6) (w:=w.at d6) j3 e2 hdid (fun b ⟨a,h1,_⟩=>hw3.ltW h1) j4 j5
 refine Ends.ran (Jz.trans ⟨N5,j1⟩ (Jz.head (by rw[j6];exact i1) .refl)) ?_
 rcases hst with⟨g1,g2⟩ |⟨f,p,p',k,ht,⟨hk,hne⟩,ef,ef',hpp,hcc⟩
 ·exact hd1 z (.refl z) B' z.V.tape z.V.drawn gs7 W1 sl6 _ q5 fr1' c1' hw1 g1 g2 hbt hkp1 i3 i4 i5
 ·obtain rfl:=hk.resolve_right hDn;obtain⟨zf,zc,zV⟩:=z;dsimp only at ef hne hcc hw1 hbt hd1 hd2;subst ef ef'
  cases zc with
  | nil=>exact absurd rfl hne
  | cons c0 cs0=>exact hpart f p p' c0 cs0 zV B' gs7 W1 sl6 _ q5 c1' ht hd2 hd1 hbt hkp1 hw1 hpp hcc i3 i4 i5
theorem Acv (H:Whole X P P'){Q:Value->World->Prop}(hQ:∀v w τ d,Q v w->Q v { w with tape:=τ,drawn:=d })(hpost:∀B V v v' W,Q v V->VR X B v v'->WR X B V W->Kept X m0 w0 B W->Post v' W){x:St}(hx:Fin P Q x)(hm:P'.inits.idxOf? x.fr.fn=none):Sim X P' m0 w0 Post x:=by
 intro B τ d gs w sl t q fr' cs' hw hf hc hb hkp h0 hL hP;obtain⟨h1,v,⟨g1,g2,g3,fn,g4,g5⟩,hq⟩:=hx;obtain rfl:cs'=[]:=by rw[h1]at hc;cases hc;rfl
 have hm':fr'.mode=.returning:=by
  have:=hf.mode;rw[g1]at this;generalize fr'.mode=q at this
  cases this
  rfl
 have hd':fr'.defers=[]:=by
  have:=hf.defers;rw[g2]at this;generalize fr'.defers=q at this
  cases this
  rfl
 have hk':fr'.kind=.normal:=hf.kind.trans g3
 obtain⟨fn',e5,hres⟩:∃fn',P'.funcs[x.fr.fn]?=some fn'/\fn'.results=fn.results:=by
  rcases H.hF.funcs x.fr.fn with⟨e1,e2⟩ |⟨f1,f2,e1,e2,hn,hr,_⟩
  ·rw[g4]at e1;cases e1
  ·rw[g4]at e1;cases e1;exact⟨f2,e2,hr⟩
 refine beside_ends (Shun:=fun _=>False) (B:=w.heap.size) (D:=fun _ _ _=>False) (n:=0) (fun _ _ _ h=>h.elim) h0 hL hP ?_
 rintro w2 ⟨d2,rfl⟩;have hw2:WR X B (x.at w.tape d2).V (w.at d2):=A2d hw w.tape d2
 have g6:=Hr H hw (fr':=fr') hf g4 (fr:=x.fr) (V:=(x.at τ d).V) (v:=v) (by
  have:=Hr H (A2d (τ:=x.V.tape) (d:=x.V.drawn) hw) hf g4 g5 τ d
  exact this) w.tape d2
 have g6:(results fn x.fr.tmps).run P (x.at w.tape d2).V=.ok v (x.at w.tape d2).V:=g6
 rcases Jt (Hx H.hF.toPRel hres hf.tmps) hw2 with⟨a,V1,B1,W1,b,n,e1,e2,hx,hw1,hab,hn⟩ |⟨v,V1,B1,W1,v',n,e1,e2,hx,hw1,hab,hn⟩ |⟨h,V1,e1,hm⟩
 ·rw[g6]at e1;injection e1 with e1 e3
  subst e1 e3
  have hW:W1=w.at d2:=by
   have:=e2 #[];rw[Sem.runT_eq]at this
   exact Ro.results fn' fr'.tmps (w.at d2) b W1 (congrArg Prod.fst this)
  subst hW;have hdid:=Xp hw2 hw1 hx (hn.seen (P':=P') fr'.fn)
  refine⟨rfl,b,seen P' fr'.fn n,?_,fun e he=>Ng (hdid.evs e he) hdid.lt fun z ⟨y,hy,_⟩=>hw2.ltW hy,hpost _ _ _ _ _ (hQ _ _ w.tape d2 hq) hab hw1 ((hkp.at d2).step hx hdid)⟩
  rw[D8 (by rw[hm'];simp)]
  unfold unwind;rw[hd',hm',hf.fn,e5];dsimp only;rw[e2 #[],Ajt];dsimp only;unfold doReturn;rw[hk'];rw[<-hf.fn]at hm;simp[GStep.after,hm]
 ·rw[g6]at e1;cases e1
 ·rw[g6]at e1;cases e1
theorem sim (H:Whole X P P')(hDn:¬X.Dn){Q:Value->World->Prop}(hpart:A8f X P P' F m0 w0 Post)(hQ:∀v w τ d,Q v w->Q v { w with tape:=τ,drawn:=d })(hF:∀x,F x->Fin P Q x/\P'.inits.idxOf? x.fr.fn=none)(hpost:∀B V v v' W,Q v V->VR X B v v'->WR X B V W->Kept X m0 w0 B W->Post v' W){x:St}(h:Bar.Way P F x):Sim X P' m0 w0 Post x :=
 Ade (fun x h=>Fin.pop (hF x h).1) (fun x h=>Acv H hQ hpost (hF x h).1 (hF x h).2) (fun x g hg hw ih=>Aam H hDn hpart x g hg hw ih) h x (.refl x)
theorem Afq {XV:Cx}{PV:Program}(HV:Whole XV PV PV)(hT:∀f,¬XV.T f){Q:Value->World->Prop}(hQ:∀v w τ d,Q v w->Q v { w with tape:=τ,drawn:=d }){f:FuncId}{args:Array Value}{V:World}(hj:JL XV ⟨Frame.enter PV f args .normal,[],V⟩)
 (h:∀τ d,Calls PV f args { V with tape:=τ,drawn:=d } (only Q)):Bar.Way PV (fun x=>Fin PV Q x/\x.fr.fn=f) ⟨Frame.enter PV f args .normal,[],V⟩:=by
 have K:Ut PV (fun x=>Fin PV Q x/\x.fr.fn=f) (JL XV):=A0v HV hT fun x τ d hj hx=>⟨A6l HV hQ x τ d hj hx.1,hx.2⟩
 refine bar K hj fun τ d=>?_
 obtain⟨e,w',fr,hr,hs,hf,hl⟩:=h τ d [wall PV]
 cases e with
 | returned v =>
   obtain⟨n,hs⟩:=hs
   exact Wr K (z:=⟨fr,[],w'⟩) ⟨⟨rfl,v,hl,hr⟩,hf⟩ n _ (K.tape _ τ d hj) hs
 | panicked chain=>exact hr.elim
 | outgrown=>exact hr.elim
end
end Co
section
open Go.ConcN (sumTo)
open Go.RowKit Go.Conc Co Ok Lr Tl Bar
theorem Hs {α:Type}(n:Nat)(f:Nat->Nat->α):∀i,(rowsOf n f i).length=i*n
 | 0=>by simp[rowsOf]
 | i+1=>by rw[Ii,Aje,Hs n f i,Ajp,List.length_range,Akc]
theorem Q2 {cx cy d n:Nat}{Cd:Bool}{xs:List Nat}{ys:List Int}(v:Value)(V:World)(τ:Tape)(k:Nat)(h:M8 cx cy d n Cd xs ys v V):M8 cx cy d n Cd xs ys v { V with tape:=τ,drawn:=k }:=h
theorem Ah2 {X:Cx}{B:Lk}:VR X B O9 O9:=.agg rfl fun i v v' h1 h2=>by
 rw[h1]at h2
 cases h2
 match i with
 | 0=>cases h1;exact .Kv _ _
 | 1=>cases h1;exact .Kv _ _
 | i+2=>cases h1
theorem A83 {cx cy d n:Nat}{A4:Int}{px py:Nat->Nat->Nat}{bx:Nat->Nat->Value}{st:Nat->Nat->Int}{sm:Nat->Nat->Nat}{ex ey:Nat}(C:K9 cx cy d n A4 px py bx st sm)(hn:n<=8)(hn0:0<n)
 (h:∀W,Calls Vp.prog 31 #[.complex .f32 cx cy,.int .i64 d,.int .i64 n] W fun e w'=>e=.returned (.bool true)/\W=w') (hp:∀W,Calls Vp.prog 32 #[.complex .f32 cx cy,.int .i64 d,.int .i64 n,.int .i64 n] W fun e w'=>e=.returned (.complex .f32 ex ey)/\W=w')
 (hf1:(FloatKind.f32.format.order ex 1090519040 == some .gt)=false) (hf2:(FloatKind.f32.format.order ey 1090519040 == some .gt)=false) {c0:Frame} {bs:List Frame} {gs:Array Goroutine} {w:World} {sl:Option (Nat×Nat)} {t:Trace} {q:Nat->Nat}
 (hN:Vp.prog.globals.size<=w.heap.size) (h0:gs[0]?=some (G (Frame.enter Tryz.prog 15 (Wt cx cy d n A4) .normal) (c0 :: bs))) (hL:Leavers Tryz.prog t gs q) (hP:Past (fun _=>False) w.heap.size t) :
 ∃gs' w' sl' t' q' v',Jz Tryz.prog gs w sl t gs' w' sl' t'/\gs'.size=gs.size+1/\gs'[0]?=some (G (c0.finish v') bs)/\Leavers Tryz.prog t' gs' q'/\Past (fun _=>False) w'.heap.size t'/\w.heap.size<=w'.heap.size /\(∀x,x<w.heap.size->w'.heap[x]?=w.heap[x]?) /\
  w'.tape=w.tape/\w'.os=w.os/\w'.output=w.output/\Uw cx cy d n (rowsOf n sm n) (rowsOf n st n) w.heap.size v' w':=by
 obtain⟨gs1,w1,sl1,t1,q1,B,V,ww,b',a,a',e',c,L,rb,ob,gS,gM,r1,z1,g1,g2,sit,hLe,hMS,y1,y2,y3,y4,y5,hTX⟩:=A17 (A4:=A4) hn h hp hf1 hf2 (sl:=sl) hN h0 hL hP
 have hA:Co Tryz.prog true (c0 :: bs) (Ka (Xs w.heap.size fun _=>False) B) (fun L fr cs W=>Gt Tryz.prog true (c0 :: bs) c (.recv O9) fr cs/\Ra w.heap.size c w.heap.size cx cy d n 0 [] [] (Ka (Xs w.heap.size fun _=>False) B) L fr cs W) (G2 (Xs w.heap.size fun _=>False) B) (b'.at a' (.inRegion Eo [] :: [.code e'])) [] w1:=by
  refine Co.J5 (WH.hot ⟨V,rfl,hMS.wr⟩) fun W2 hr=>?_
  exact A24 (ww:=ww) (rb:=rb) (ob:=ob) (gS:=gS) (gM:=gM) (hMS.rely hr) (Ai5 sit.kept.1 hr.1) fun τ k=>A9c y1 y2 y3 y4 y5 (Ec hTX τ k)
 rw[Hn,<-hLe]at hA;have hc1:c<w1.heap.size:=by obtain⟨s,tm,hc⟩:=sit.chan;exact(Ai2.1 hc).1
 have hS:=A7f (A4:=A4) C hn hn0 (c:=c) hc1 (Ai5 hN sit.kept.1)
 have hb0:Abe w.heap.size c w.heap.size gs.size cx cy d n st sm w (c0 :: bs) 0 n gs1 w1 t1 q1 L (fun _=>False) (fun _=>False) _ _ [] [] w1 w1 :=
  ⟨by rw[Nat.zero_mul];exact hA,hS,sit,g1,g2,Bv _ _ _,Bv _ _ _⟩
 obtain⟨gs2,w2,sl2,t2,q2,La2,Lb2,R2,fra2,frb2,csa2,csb2,Wa2,Wb2,r2,z2,hb⟩:=Wh hn hN n 0 (by omega) (sl:=sl1) hb0
 have hS2:=hb.S;unfold Pb at hS2;obtain⟨gs3,w3,sl3,t3,q3,La3,fr3,cs3,W3,r3,z3,g3,hK,hr3,hL3,hP3,hlow3,hdis3,hR3,hkept3⟩:=finish (K:=fun L fr cs W=>Ra w.heap.size c w.heap.size cx cy d n (n*n) (rowsOf n sm n) (rowsOf n st n) R2 L fr cs W) hb.A hS2 (sl:=sl2) hb.sit hb.ga hb.gb hb.ra hb.rb
 obtain⟨F,B3,V3,ww3,a3,a3',b3',k3',rb3,ob3,gS3,gM3,rfl,rfl,hMS3,hMA3,hTX3,rfl,rfl⟩:=hK;have hMS4:=hMS3.rely hr3
 have hCo:=Re (base:=c0 :: bs) (Post:=M6 (Xs w.heap.size F) V3.heap.size w3.heap.size B3 (Fin Vp.prog (M8 cx cy d n true (rowsOf n sm n) (rowsOf n st n)))) (vV:=O9) (vW:=O9) (y:=false) hMS4 hMA3.size Ah2 fun τ k W2 hsz hM =>
  (A0x (cx:=cx) (cy:=cy) (d:=d) (n:=n) (Cd:=true) (xs:=rowsOf n sm n) (ys:=rowsOf n st n) hM.wr hM.fr fun τ' k'=>⟨{ ww3 with tape:=τ',drawn:=k' },Ac2 hMA3.Agn (by
   rw[Cs (by decide)]
   exact Aic (by rw[hMA3.size];decide)) (Aic (by rw[Es,hMA3.size];decide)) (Ec hTX3 τ' k')⟩).mono fun _ _ _ _ x=>Yf x hsz
 obtain⟨N4,gs4,fr4,cs4,w4,W4,sl4,t4,q4,L4,k1,k2,k3,k4,k5,k6,k7,k8,_,_⟩:=Jj hCo gs3 w3 sl3 t3 q3 g3 (Bv _ _ _) (fun x hx=>(hR3 x hx).2) hL3 hP3
 obtain⟨rfl,hret⟩:=Pu (m:=true) (Lw w.heap.size F) (Q:=M8 cx cy d n true (rowsOf n sm n) (rowsOf n st n)) Q2 k4 (R:=Ka (Xs w.heap.size F) B3) fun B1 hg _=>Y2 hMS4.wr hg
 obtain⟨N5,gs5,d5,sl5,t5,q5,j1,j2,j3,j4,j5,_,d6,sl6,j6⟩:=Qv (P:=Tryz.prog) (sumTo gs4.size q4) gs4 w4 sl4 t4 q4 rfl k3 k6 k7;obtain⟨v',W6,n6,L6,hdid,hst,B6,V6,v6,hg6,hq6,hv6,hw6,rfl⟩:=hret (w4.at d6) (Ak k5 d6);obtain⟨gs7,ops,i1,i2,i3,i4,i5⟩:=Ov (sl:=sl6) (w:=w4.at d6) j3 (hst c0 bs) hdid (fun x hx=>Ai9 (hR3 x hx).2 k8.size) j4 j5
 have hrun:Jz Tryz.prog gs w sl t gs7 W6 sl6 (t5++ops):=(r1.trans (r2.trans (r3.trans (Jz.trans ⟨N4,k1⟩ ⟨N5,j1⟩)))).trans (Jz.head (by rw[j6];exact i1) .refl)
 have hL4:∀x,L4 x->w.heap.size<=x:=fun x hx=>by
  rcases k8.new x hx with y|y
  ·exact hlow3 x (.inl y)
  ·exact Ai5 hkept3.1 y
 refine⟨gs7,W6,sl6,t5++ops,q5,v',hrun,by rw[i2,j2,k2,z3,z2,z1],i3,i4,i5,Ai5 hkept3.1 (Ai5 k8.size hdid.size),fun x hx=>?_,?_,?_,?_,Ab7 hq6 hv6 hw6 (fun x y hxy=>?_) ?_ ?_⟩
 ·rw[hdid.kept x (Ai9 hx (Ai5 hkept3.1 k8.size)) fun hl=>Nat.not_le.2 hx (hL4 x hl)]
  refine(k8.kept x (Ai9 hx hkept3.1) fun hl=>Nat.not_le.2 hx (hlow3 x (.inl hl))).trans (hkept3.2.1 x hx)
 ·exact hdid.tape.trans (k8.tape.trans hkept3.2.2.1)
 ·exact hdid.os.1.trans (k8.os.1.trans hkept3.2.2.2.1)
 ·exact hdid.os.2.trans (k8.os.2.trans hkept3.2.2.2.2)
 ·rcases hg6.2 x y hxy with z |⟨_,z⟩
  ·exact hMS4.low x y z
  ·exact Ai5 hkept3.1 z
 ·rw[Hs];exact Nat.mul_pos hn0 hn0
 ·rw[Hs];exact Nat.mul_pos hn0 hn0
end
section
open Go.ConcN (sumTo)
open Go.RowKit Go.Conc Co Ok Lr Tl Bar
theorem A4w {X:Cx}{B:Lk}:∀(k:Nat) (v v':Value),D5 k v=true->VR X B v v'->v'=v:=by
 have rows:∀(k:Nat) (p p':Array Value),(∀v v',D5 k v=true->VR X B v v'->v'=v)->p.all (D5 k)=true->p.size=p'.size ->(∀(i:Nat) v v',p[i]?=some v->p'[i]?=some v'->VR X B v v')->p'=p:=by
  intro k p p' ih h hs hi;rw[Aiz]at h
  apply Ala
  intro i
  cases h1:p[i]? with
  | none =>
    rw[Array.getElem?_eq_none_iff]at h1 ⊢
    omega
  | some v =>
    have hlt:i<p'.size:=by rw[<-hs];exact(Ai2.1 h1).1
    have h2:=Ai8 hlt;rw[h2,ih v _ (h v (Aj2 h1)) (hi i v _ h1 h2)]
 intro k
 induction k with
 | zero=>intro v v' h hv;cases hv<;>first|rfl |(simp[D5]at h)
 | succ k ih =>
   intro v v' h hv
   cases hv with
   | agg hs hi=>rw[rows k _ _ ih (by simpa only[D5]using h) hs hi]
   | tuple hs hi=>rw[rows k _ _ ih (by simpa only[D5]using h) hs hi]
   | _=>first|rfl |(simp[D5]at h)
theorem Ab8 {cx cy:Nat}{deep size A4:Int}(hh:∀a:Act,a.tmps.size=71->a.tmps[0]?=some (.complex .f32 cx cy)->a.tmps[1]?=some (.int .i64 deep)->a.tmps[2]?=some (.int .i64 size)->a.tmps[3]?=some (.int .i64 A4)->a.defers=[]->∀w,HW Vp.prog [.code (cut [9,10,12] Bh)] (Q7 0 0 0 0 false [] [] w) a w)
 {c0:Frame} {bs:List Frame} {gs:Array Goroutine} {w:World} {sl:Option (Nat×Nat)} {t:Trace} {q:Nat->Nat}
 (hN:Vp.prog.globals.size<=w.heap.size) (h0:gs[0]?=some (G (Frame.enter Tryz.prog 15 #[.complex .f32 cx cy,.int .i64 deep,.int .i64 size,.int .i64 A4] .normal) (c0 :: bs))) (hL:Leavers Tryz.prog t gs q) (hP:Past (fun _=>False) w.heap.size t) :
 ∃gs' w' sl' t' q' ,Jz Tryz.prog gs w sl t gs' w' sl' t'/\gs'.size=gs.size/\gs'[0]?=some (G (c0.finish (.tuple #[.agg (Bu 0 0 0 0 (.slice none 0 0) (.slice none 0 0)),.bool false])) bs)/\Leavers Tryz.prog t' gs' q'/\Past (fun _=>False) w'.heap.size t'/\w.heap.size<=w'.heap.size /\(∀x,x<w.heap.size->w'.heap[x]?=w.heap[x]?) /\
  w'.tape=w.tape/\w'.os=w.os/\w'.output=w.output:=by
 rw[Rs]at h0;generalize hT:(#[.complex .f32 cx cy,.int .i64 deep,.int .i64 size,.int .i64 A4]:Array Value)++Array.replicate (71-(#[.complex .f32 cx cy,.int .i64 deep,.int .i64 size,.int .i64 A4]:Array Value).size) undef=T at h0;have hTs:T.size=71:=by rw[<-hT];simp
 have hT0:T[0]?=some (.complex .f32 cx cy):=by rw[<-hT];exact Eg rfl _
 have hT1:T[1]?=some (.int .i64 deep):=by rw[<-hT];exact Eg rfl _
 have hT2:T[2]?=some (.int .i64 size):=by rw[<-hT];exact Eg rfl _
 have hT3:T[3]?=some (.int .i64 A4):=by rw[<-hT];exact Eg rfl _
 have hTR:AR (Xs w.heap.size fun _=>False) (fun _ _=>False) T T:=by
  rw[<-hT]
  refine AR.append ⟨rfl,fun i v v' h1 h2=>?_⟩ (AR.replicate _ Ga)
  rw[h1]at h2
  cases h2
  match i with
  | 0=>cases h1;exact .complex _ _ _
  | 1=>cases h1;exact .int _ _
  | 2=>cases h1;exact .int _ _
  | 3=>cases h1;exact .int _ _
  | i+4=>cases h1
 have hhot:G2 (Xs w.heap.size fun _=>False) (fun _ _=>False)=fun _=>False:=by
  funext x;apply propext;exact⟨fun⟨b,h1,_⟩=>h1,fun h=>h.elim⟩
 have hCo:=A0x (base:=c0 :: bs) (cx:=0) (cy:=0) (d:=0) (n:=0) (Cd:=false) (xs:=[]) (ys:=[]) (A23 hN) (a:=⟨T,[]⟩) (s:=[.code (cut [9,10,12] Bh)]) (fr:=bM.at ⟨T,[]⟩ [.code Bh])
  (Hl hTR .nil (.cons (.code (A4t _ _)) .nil) rfl rfl) fun τ k=>⟨_,hh ⟨T,[]⟩ hTs hT0 hT1 hT2 hT3 rfl { V0 w with tape:=τ,drawn:=k }⟩
 rw[hhot,Hn]at hCo;obtain⟨N4,gs4,fr4,cs4,w4,W4,sl4,t4,q4,L4,k1,k2,k3,k4,k5,k6,k7,k8,_,_⟩:=Jj hCo gs w sl t q h0 (Bv _ _ _) (fun x hx=>hx.elim) hL hP
 obtain⟨rfl,hret⟩:=Pu (m:=true) (Lw w.heap.size fun _=>False) (Q:=M8 0 0 0 0 false [] []) Q2 k4 (R:=fun _=>False) fun B1 hg _=>Hn
 obtain⟨N5,gs5,d5,sl5,t5,q5,j1,j2,j3,j4,j5,_,d6,sl6,j6⟩:=Qv (P:=Tryz.prog) (sumTo gs4.size q4) gs4 w4 sl4 t4 q4 rfl k3 k6 k7;obtain⟨v',W6,n6,L6,hdid,hst,B6,V6,v6,hg6,hq6,hv6,hw6,rfl⟩:=hret (w4.at d6) (Ak k5 d6);obtain⟨gs7,ops,i1,i2,i3,i4,i5⟩:=Ov (sl:=sl6) (w:=w4.at d6) j3 (hst c0 bs) hdid (fun x hx=>hx.elim) j4 j5
 have hrun:Jz Tryz.prog gs w sl t gs7 W6 sl6 (t5++ops):=(Jz.trans ⟨N4,k1⟩ ⟨N5,j1⟩).trans (Jz.head (by rw[j6];exact i1) .refl)
 have hL4:∀x,L4 x->w.heap.size<=x:=fun x hx=>(k8.new x hx).resolve_left id
 unfold M8 at hq6;rw[Aid (by simp)]at hq6
 subst hq6;have:=A4w 3 _ _ (by simp[D5,Bu]) hv6
 subst this
 exact⟨gs7,W6,sl6,t5++ops,q5,hrun,by rw[i2,j2,k2],i3,i4,i5,Ai5 k8.size hdid.size,fun x hx=>by
  rw[hdid.kept x (Ai9 hx k8.size) fun hl=>Nat.not_le.2 hx (hL4 x hl)]
  exact k8.kept x hx fun hl=>hl,hdid.tape.trans k8.tape,hdid.os.1.trans k8.os.1,hdid.os.2.trans k8.os.2⟩
end
section
open Go.RowKit Go.Conc Co Ok Lr Tl Bar
theorem A82 {P:Program}{F:St->Prop}(hF:∀x,F x->Uv x){z:St}:∀(n:Nat) (x:St),Bar.Way P F x->runN P n (lone x.fr (x.cs++[wall P]) x.V)=.next (lone z.fr (z.cs++[wall P]) z.V)->Bar.Sub P x z:=by
 intro n
 induction n with
 | zero =>
   intro x _ h;simp only[runN]at h;injection h with h
   injection h with h1 h2 _
   have h2:(#[{ frame:=x.fr,callers:=x.cs++[wall P],status:=.running,dying:=none }]:Array Goroutine)=#[{ frame:=z.fr,callers:=z.cs++[wall P],status:=.running,dying:=none }]:=h2;simp only[Array.mk.injEq,List.cons.injEq,Goroutine.mk.injEq,and_true]at h2;obtain⟨a,b,c⟩:=x;obtain⟨a',b',c'⟩:=z;dsimp only at h1 h2;obtain⟨rfl,h3⟩:=h2;subst h1;have h3:=Ak2 h3;subst h3
   exact .refl _
 | succ n ih =>
   intro x hw h;simp only[runN]at h
   cases hw with
   | fin hx =>
     have hp:=hF x hx;rw[hp.1]at h
     rcases A1e (P:=P) hp with⟨o,w,e⟩ |⟨fr1,w,o,w1,e1,e2⟩
     ·rw[Al0,e]at h
      cases h
     ·rw[Al0,e1]at h;dsimp only at h
      cases n with
      | zero =>
        simp only[runN]at h;injection h with h
        injection h with _ h2 _
        have h2:(#[{ frame:=fr1,callers:=[],status:=.running,dying:=none }]:Array Goroutine)=#[{ frame:=z.fr,callers:=z.cs++[wall P],status:=.running,dying:=none }]:=h2;simp at h2
      | succ n =>
        simp only[runN,e2]at h
        cases h
   | go g hg hw =>
     obtain⟨es,k⟩:=hg x.V.tape x.V.drawn;have k:stepG P true { frame:=x.fr,callers:=x.cs++[wall P],status:=.running,dying:=none } x.V=_:=k;have:step P (lone x.fr (x.cs++[wall P]) x.V)=.next (lone (g x.V.tape x.V.drawn).fr ((g x.V.tape x.V.drawn).cs++[wall P]) (g x.V.tape x.V.drawn).V):=step_lone_go (by rw[k];rfl)
     rw[this]at h
     exact .step x.V.tape x.V.drawn ⟨es,k⟩ (ih _ (hw _ _) h)
theorem Zl {P:Program}{F:St->Prop}(hF:∀x,F x->Uv x){f:FuncId}{args:Array Value}{V:World}{c:Frame}{cs:List Frame}{Q:Value->World->Prop}(hw:Bar.Way P F ⟨Frame.enter P f args .normal,c :: cs,V⟩)(h:Calls P f args V (fun e w=>∃v,e=.returned v/\Q v w)) :
 ∃v V',Q v V'/\Bar.Sub P ⟨Frame.enter P f args .normal,c :: cs,V⟩ ⟨c.finish v,cs,V'⟩:=by
 obtain⟨e,w',fr,⟨v,rfl,hq⟩,hs,hf,hl⟩:=h (c :: cs++[wall P]);have hs:Steps P (lone (Frame.enter P f args .normal) (c :: cs++[wall P]) V) (lone fr (c ::(cs++[wall P])) w'):=hs
 have h1:Steps P (lone fr (c ::(cs++[wall P])) w') (lone (c.finish v) (cs++[wall P]) w'):=⟨1,by
  simp only[runN];rw[step_leave_returned hl]⟩
 obtain⟨n,hn⟩:=Steps.trans hs h1
 exact⟨v,w',hq,A82 hF (z:=⟨c.finish v,cs,w'⟩) n ⟨Frame.enter P f args .normal,c :: cs,V⟩ hw hn⟩
def A0z (cx cy:Nat)(deep size A4:Int):Array Value:=#[.complex .f32 cx cy,.int .i64 deep,.int .i64 size,.int .i64 A4]
def Adu:Value:=.tuple #[.agg (Bu 0 0 0 0 (.slice none 0 0) (.slice none 0 0)),.bool false]
def Ae0 (cx cy:Nat)(deep size A4:Int):Prop :=
 (∀a:Act,a.tmps.size=71->a.tmps[0]?=some (.complex .f32 cx cy)->a.tmps[1]?=some (.int .i64 deep)->a.tmps[2]?=some (.int .i64 size)->a.tmps[3]?=some (.int .i64 A4)->a.defers=[]->∀w,HW Vp.prog [.code (cut [9,10,12] Bh)] (Q7 0 0 0 0 false [] [] w) a w) /\
 ∀V,Calls Vp.prog 15 (A0z cx cy deep size A4) V fun e V'=>e=.returned Adu/\Below V.heap.size V V'
def Ae1 (cx cy:Nat)(deep size A4:Int):Prop :=
 ∃(d n:Nat) (px py:Nat->Nat->Nat) (bx:Nat->Nat->Value) (st:Nat->Nat->Int) (sm:Nat->Nat->Nat) (ex ey:Nat),deep=d/\size=n/\n<=8/\0<n/\K9 cx cy d n A4 px py bx st sm /\
  (∀W,Calls Vp.prog 31 #[.complex .f32 cx cy,.int .i64 d,.int .i64 n] W fun e w'=>e=.returned (.bool true)/\W=w') /\(∀W,Calls Vp.prog 32 #[.complex .f32 cx cy,.int .i64 d,.int .i64 n,.int .i64 n] W fun e w'=>e=.returned (.complex .f32 ex ey)/\W=w') /\
  (FloatKind.f32.format.order ex 1090519040 == some .gt)=false /\(FloatKind.f32.format.order ey 1090519040 == some .gt)=false /\
  ∀V,Calls Vp.prog 15 (A0z cx cy deep size A4) V fun e V'=>∃v,e=.returned v/\Uw cx cy d n (rowsOf n sm n) (rowsOf n st n) V.heap.size v V'/\Below V.heap.size V V'
def A2j:Prop:=∀cx cy deep size A4,Ae0 cx cy deep size A4\/Ae1 cx cy deep size A4
abbrev tmL:List (Nat×Nat):=[(15,4)]
section
variable {cl gl : List Nat} {Q : String -> Code -> Prop} {F : Nat -> Prop} {L : Nat -> Nat} {lf : ∀ b, L b ≠ 0 -> F b}
theorem Afp {cx cy d n gS gM gS' gM':Nat}{B:Lk}{V:World}(hF:∀b,F b->b<V.heap.size)(h1:V.heap.size<=gS)(h2:V.heap.size<=gM)(b1:B gS gS')(b2:B gM gM') :
 VR (Rq Vp.prog tmL cl gl Q (fun _=>False) F False L lf) B (.tuple #[.agg (Bu cx cy d n (.slice (some ⟨gS,0,none⟩) (n*n) (n*n)) (.slice (some ⟨gM,0,none⟩) (n*n) (n*n))),.bool true])
  (.tuple #[.agg (Bu cx cy d n (.slice (some ⟨gS',0,none⟩) (n*n) (n*n)) (.slice (some ⟨gM',0,none⟩) (n*n) (n*n))),.bool true]):=by
 have hl:∀g,V.heap.size<=g->L g<=0:=fun g hg=>Al3 (Alm fun x=>Akh _ (Ai9 (hF g (lf g x)) hg))
 refine .tuple rfl fun i v v' x x'=>?_
 match i with
 | 0 =>
   cases x;cases x'
   refine .agg rfl fun i v v' x x'=>?_
   match i with
   | 0=>cases x;cases x';exact .complex _ _ _
   | 1=>cases x;cases x';exact .int _ _
   | 2=>cases x;cases x';exact .int _ _
   | 3=>cases x;cases x';exact .slice _ _ ⟨⟨b1,id⟩,⟨rfl,hl _ h1⟩,rfl⟩
   | 4=>cases x;cases x';exact .slice _ _ ⟨⟨b2,id⟩,⟨rfl,hl _ h2⟩,rfl⟩
   | i+5=>cases x
 | 1=>cases x;cases x';exact .bool _
 | i+2=>cases x
theorem Aa0 (hV:A2j){Fi:St->Prop}(hFi:∀x,Fi x->Uv x)(m0:Nat)(w0:World)(Post:Value->World->Prop) :
 A8f (Rq Vp.prog tmL cl gl Q (fun _=>False) F False L lf) Vp.prog Tryz.prog Fi m0 w0 Post:=by
 intro f p p' c cs V B gs w sl t q cs' hT hway hsub hb hkp hw hp hcs h0 hL hP;obtain⟨-,hT⟩:=hT;have hT:(f,p.size)∈tmL:=hT;simp only[Ake,Prod.mk.injEq]at hT;obtain⟨rfl,hs⟩:=hT;obtain⟨cx,cy,deep,size,A4,rfl⟩:=Aak hFi hs hway
 obtain rfl:p'=A0z cx cy deep size A4:=by
  have:=A4w (X:=Rq Vp.prog tmL cl gl Q (fun _=>False) F False L lf) (B:=B) 1 (.agg (A0z cx cy deep size A4)) (.agg p') (by simp[D5,A0z]) (.agg hp.1 hp.2)
  injection this
 obtain⟨c',cs'',rfl,hc,hcs⟩:∃c' cs'',cs'=c' :: cs''/\Ee (Rq Vp.prog tmL cl gl Q (fun _=>False) F False L lf) B c c'/\L8 (Rq Vp.prog tmL cl gl Q (fun _=>False) F False L lf) B cs cs'':=by
  cases hcs with
  | cons a b=>exact⟨_,_,rfl,a,b⟩
 have hbot:∀v,Gv (c.finish v) cs=none:=fun v=>(Dc (Dr c v) cs).trans hb
 have hN:Vp.prog.globals.size<=w.heap.size:=hw.nW
 rcases hV cx cy deep size A4 with⟨hh,hv⟩ |⟨d,n,px,py,bx,st,sm,ex,ey,rfl,rfl,hn8,hn0,C,hpl,hpt,hf1,hf2,hv⟩
 ·obtain⟨v,V',⟨rfl,hbl⟩,hsb⟩:=Zl hFi hway (Q:=fun v V'=>v=Adu/\Below V.heap.size V V') ((hv V).mono fun e V' ⟨h1,h2⟩=>⟨_,h1,rfl,h2⟩)
  obtain⟨gs',w',sl',t',q',r,-,g0,gL,gP,hsz,hkept,htape,hos,hout⟩:=Ab8 hh (sl:=sl) hN h0 hL hP
  have hw':WR (Rq Vp.prog tmL cl gl Q (fun _=>False) F False L lf) B { V' with tape:=w'.tape,drawn:=w'.drawn } w' :=
   A64 hw (V':={ V' with tape:=w'.tape,drawn:=w'.drawn }) hbl.size (fun b hb=>hbl.block b hb) hsz hkept rfl rfl (by rw[hos,hw.os];exact hbl.os.symm) (by rw[hout,hw.output];exact hbl.output.symm)
  refine Ends.ran r (hsub _ hsb B w'.tape w'.drawn gs' w' sl' t' q' _ cs'' hw' (hc.finish ?_) hcs (hbot _) ?_ g0 gL gP)
  ·refine .tuple rfl fun i v v' x x'=>?_
   match i with
   | 0 =>
     cases x;cases x'
     refine .agg rfl fun i v v' x x'=>?_
     match i with
     | 0=>cases x;cases x';exact .complex _ _ _
     | 1=>cases x;cases x';exact .int _ _
     | 2=>cases x;cases x';exact .int _ _
     | 3=>cases x;cases x';exact .Kv _ _
     | 4=>cases x;cases x';exact .Kv _ _
     | i+5=>cases x
   | 1=>cases x;cases x';exact .bool _
   | i+2=>cases x
  ·exact⟨hkp.low,Ai5 hkp.size hsz,fun x hx=>(hkept x (Ai9 hx hkp.size)).trans (hkp.old x hx),htape.trans hkp.tape,⟨hos.trans hkp.os.1,hout.trans hkp.os.2⟩⟩
 ·obtain⟨v,V',⟨⟨gS,gM,rfl,l1,l2,l3,c1,c2⟩,hbl⟩,hsb⟩:=Zl hFi hway (Q:=fun v V'=>Uw cx cy d n (rowsOf n sm n) (rowsOf n st n) V.heap.size v V'/\Below V.heap.size V V') (hv V)
  obtain⟨gs',w',sl',t',q',v',r,-,g0,gL,gP,hsz,hkept,htape,hos,hout,⟨gS',gM',rfl,l1',l2',l3',c1',c2'⟩⟩:=A83 C hn8 hn0 hpl hpt hf1 hf2 (sl:=sl) hN h0 hL hP
  have hw':WR (Rq Vp.prog tmL cl gl Q (fun _=>False) F False L lf) B { V' with tape:=w'.tape,drawn:=w'.drawn } w' :=
   A64 hw (V':={ V' with tape:=w'.tape,drawn:=w'.drawn }) hbl.size (fun b hb=>hbl.block b hb) hsz hkept rfl rfl (by rw[hos,hw.os];exact hbl.os.symm) (by rw[hout,hw.output];exact hbl.output.symm)
  have hnF:∀g,V.heap.size<=g->¬F g:=fun g hg hf=>Akh _ (Ai9 (hw.Rw g hf) hg)
  have hfl:∀(X:Cx) (x:Nat),Flat X (D6 x):=fun X x B=>.float _ _
  have hil:∀(X:Cx) (x:Int),Flat X (Av x):=fun X x B=>.int _ _
  have hw1:=Abd hw' (s:=gS) (s':=gS') (fun y h=>Akh _ (Ai9 (hw.Vw h) l1)) (fun x h=>Akh _ (Ai9 (hw.ltW h) l1')) c1 c1'
   (fun v hv=>by
    rw[Ajb,Aj5]at hv;obtain⟨x,_,rfl⟩:=hv
    exact hfl _ x) id (hnF gS l1) (Ai5 hw.nV l1) (Ai5 hw.nW l1')
  have hw2:=Abd hw1 (s:=gM) (s':=gM') (fun y h=>h.elim (fun h=>Akh _ (Ai9 (hw.Vw h) l2)) fun h=>l3 h.1.symm) (fun x h=>h.elim (fun h=>Akh _ (Ai9 (hw.ltW h) l2')) fun h=>l3' h.2.symm) c2 c2'
   (fun v hv=>by
    rw[Ajb,Aj5]at hv;obtain⟨x,_,rfl⟩:=hv
    exact hil _ x) id (hnF gM l2) (Ai5 hw.nV l2) (Ai5 hw.nW l2')
  have hle:Le B (fun b b'=>(B b b' \/(b=gS/\b'=gS')) \/(b=gM/\b'=gM')):=fun _ _ h=>.inl (.inl h)
  refine Ends.ran r (hsub _ hsb _ w'.tape w'.drawn gs' w' sl' t' q' _ cs'' hw2 ((hc.mono hle).finish (Afp (V:=V) hw.Rw l1 l2 (.inl (.inr ⟨rfl,rfl⟩)) (.inr ⟨rfl,rfl⟩))) (hcs.mono hle) (hbot _) ?_ g0 gL gP)
  refine⟨fun x y h hf=>?_,Ai5 hkp.size hsz,fun x hx=>(hkept x (Ai9 hx hkp.size)).trans (hkp.old x hx),htape.trans hkp.tape,⟨hos.trans hkp.os.1,hout.trans hkp.os.2⟩⟩
  rcases h with(h |⟨_,rfl⟩) |⟨_,rfl⟩
  ·exact hkp.low x y h hf
  ·exact Ai5 hkp.size l1'
  ·exact Ai5 hkp.size l2'
end
end
end Go.Proofs.YtlfleicchbgcmaaGreat
