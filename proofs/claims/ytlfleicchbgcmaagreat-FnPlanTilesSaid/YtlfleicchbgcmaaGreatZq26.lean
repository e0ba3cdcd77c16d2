import Derived.Test.YtlfleicchbgcmaaGreatZq25
import Derived.OpenVars
import Derived.Lib.SmallJoins
import Derived.Conc.LeavingOf
import Derived.Test.YtlfleicchbgcmaaGreatZq0
import Derived.Test.YtlfleicchbgcmaaGreatZqK
set_option linter.all false
set_option maxHeartbeats 16000000
set_option maxRecDepth 100000
namespace Go.Proofs.YtlfleicchbgcmaaGreat
section
open Go.RowKit Flo
attribute [local go_sem ↓] Go.wp_at_zero Go.wp_at_succ
attribute [local go_sem] A7 A5
theorem toList_inj {a b:ByteArray}(h:a.toList=b.toList):a=b:=by
 rw[toList_data,toList_data]at h;have h2:a.data=b.data:=Array.toList_inj.1 h
 cases a
 cases b
 cases h2
 rfl
theorem A25:∀{P Q:List ByteArray},P.map ByteArray.toList=Q.map ByteArray.toList->P=Q
 | [],[],_=>rfl
 | [],_ :: _,h=>by cases h
 | _ :: _,[],h=>by cases h
 | a :: P,b :: Q,h=>by
   rw[Ak4,Ak4]at h;injection h with h1 h2
   rw[toList_inj h1,A25 h2]
theorem I6.none {v v':World}{cx cy:Nat}{deep size A4 budget:Int}{f:Ending}(h:¬Je cx cy deep size A4 budget){R:List (List UInt8)->Prop}(k:I6 v cx cy deep size A4 budget R f v'):f=.returned Z3/\Below v.heap.size v v':=by
 obtain⟨hb,⟨k1,k2⟩ |⟨d0',bd',M,H,f1,f2,k3,k4,k5,k6,k7,k8⟩⟩:=k
 ·exact⟨k1,hb⟩
 ·exact absurd ⟨d0',bd',H,f1,f2,k3,k4,k7⟩ h
theorem I6.told {v v':World}{cx cy:Nat}{deep size A4 budget:Int}{f:Ending}{d0 bd:Nat}{L G:List (List UInt8)}(e1:deep=d0)(e2:budget=bd)(h3:bd<=30)(h4:Uu cx cy deep size)(h6:L.Pairwise (fun a b=>Op.bytesLess b a=false))(h7:(Dz ⟨size,A4,cx,cy,d0⟩).Gk bd [[]] (some G))(h8:L.Perm G)
 (k:I6 v cx cy deep size A4 budget (fun L=>L.Pairwise Left) f v'):A8h ⟨size,A4,cx,cy,d0⟩ v.heap.size L f v'/\Below v.heap.size v v':=by
 obtain⟨hb,⟨k1,k2⟩ |⟨d0',bd',M,H,f1,f2,k3,k4,k5,k6,k7,k8⟩⟩:=k
 ·exact absurd ⟨d0,bd,G,e1,e2,h3,h4,h7⟩ k2
 ·obtain rfl:d0=d0':=by omega
  obtain rfl:bd=bd':=by omega
  have hd:Ef (some G) (some H):=h7.det (Amp _) k7;have hp:M.Perm L:=k8.trans (List.Perm.symm (h8.trans hd));obtain rfl:=Sj hp k6 h6
  exact⟨k5,hb⟩
theorem A5o {W:World}{g k:Nat}{xs:List Value}{v:Value}(h:Sl W (some ⟨g,0,none⟩) xs)(hv:xs[k]?=some v):W.cell? ⟨g,k,none⟩=some v:=by
 rcases h with rfl |⟨b,off,e,h⟩
 ·simp at hv
 ·injection e with e
  injection e with e1 e2
  subst e1 e2;have:=h k v hv
  rwa [Ak1]at this
theorem A0l (cx cy d0:Nat)(deep size A4:Int)(hd:deep=d0)(s:ByteArray)(hx:cx<4294967296)(hy:cy<4294967296)(w:World) :
 Calls Vp.prog 9 #[.complex .f32 cx cy,.int .i64 deep,.int .i64 size,.int .i64 A4,.string s] w fun e w'=>Below w.heap.size w w' /\(e=.returned (.tuple #[.agg #[.complex .f32 0 0,.int .i64 0,.int .i64 0,.slice none 0 0,.slice none 0 0],.bool false]) \/
  ∃t:Ai,e=.returned (.tuple #[.agg #[.complex .f32 t.cx t.cy,.int .i64 t.deep,.int .i64 t.size,.slice (some ⟨t.gs,0,none⟩) t.n t.cs,.slice (some ⟨t.gm,0,none⟩) t.n t.cm],.bool true])/\C9 w.heap.size t w'/\L7 ⟨size,A4,cx,cy,d0⟩ s.toList t):=by
 rcases Alv 8 s.size with h8|h8
 ·refine(U8 cx cy deep size A4 s h8 w).mono ?_
  rintro e w' ⟨rfl,hb⟩
  exact⟨hb,.inl rfl⟩
 ·refine(A0m cx cy deep size A4 s h8 hx hy w).mono ?_
  rintro e w' ⟨hb,⟨rfl,h⟩ |⟨t,e0,dd,rfl,h1,h2,h3,h4,h5,h6,h7⟩⟩
  ·exact⟨hb,.inl rfl⟩
  ·obtain rfl:d0=e0:=by omega
   refine⟨hb,.inr ⟨t,rfl,h1,⟨⟨dd,h5,?_⟩,h3,h2⟩⟩⟩
   rw[toList_data]
   exact h7
theorem U6 (t:Ai)(B:Nat)(w:World)(h:C9 B t w) :
 Calls Vp.prog 10 #[.agg #[.complex .f32 t.cx t.cy,.int .i64 t.deep,.int .i64 t.size,.slice (some ⟨t.gs,0,none⟩) t.n t.cs,.slice (some ⟨t.gm,0,none⟩) t.n t.cm]] w fun e w'=>∃b,e=.returned (.tuple #[.slice (some ⟨b,0,none⟩) 3 3,.bool true])/\A8 w b #[.int .i64 (cnt 1 t.ys:Nat),.int .i64 (cnt (-1) t.ys:Nat),.int .i64 (cnt 0 t.ys:Nat)] 3 w':=by
 have hb':=Bj h.pl;have hl:=h.made.ly;have hlx:=h.made.lx
 have hn:t.n<=64:=by
  unfold Ai.n;have:t.size.toNat<=8:=by omega
  exact Ajm this this
 have hw:C8 t.size t.n t.ys=true:=by
  have:=h.Adf
  change C8 t.size t.xs.length t.ys=true at this
  rwa [hlx]at this
 have:=Qc t.cx t.cy t.deep t.size h.bx h.by1 h.pl (some ⟨t.gs,0,none⟩) (some ⟨t.gm,0,none⟩) t.n t.cs t.cm t.ys (by omega) w (Dv h.made.M) hw
 rw[hl]at this;have hcq:Fy t.ys t.n=#[.int .i64 (cnt 1 t.ys:Nat),.int .i64 (cnt (-1) t.ys:Nat),.int .i64 (cnt 0 t.ys:Nat)]:=by unfold Fy;rw[<-hl,Amz]
 rw[hcq]at this
 refine this.mono ?_
 rintro e w' ⟨b,rfl,-,hB⟩
 exact⟨b,rfl,hB⟩
theorem Oc (w:World)(a:Option Addr)(c:Nat)(bs:List UInt8)(_:bs.length<=maxLen)(hc:bs.length<=c)(hs:Sl w a (bs.map Cz)) :
 Calls Vp.prog 3 #[.slice a bs.length c] w fun e _=>e=.returned (.bool true):=by
 by_cases hb:1048576<bs.length
 ·go_enter Vp.func3,Tryz.ntmps3
  go_wp2
  go_ret
  rfl
 have H:=Ai1 (Xr a c bs (by omega) hc w hs)
 clear hs
 go_enter Vp.func3,Tryz.ntmps3
 go_wp2_with fail
 refine H.out.mono ?_
 rintro e w1 ⟨⟨cx,cy,deep,size,A4,budget,rfl,hx,hy⟩,hb1⟩;have HSP:=Ai1 (fun W=>Ye cx cy deep size A4 budget hx hy W)
 clear H hb1
 go_wp2_with fail
 refine(A1b cx cy deep size A4 budget hx hy _).mono ?_
 rintro e w2 ⟨hb2,⟨rfl,hno⟩ |⟨d0,bd,L,G,k1,k2,k3,k4,⟨gp,cp,g,cap,n,P,rfl,r1,r2,r3,r4,r5,r6,r7⟩,k5,k6,k7⟩⟩
 ·
  have X:=A8.new w2 #[.slice none 0 0,.slice none 0 0,.int .i64 0,.int .i64 0,.int .i64 0] 29;obtain⟨x0,x1,x2,x3,x4⟩:=X.Aa;have HX:=Ai1 X;have HNO:=Ai1 hno;clear X hno hb2;unfold Z3
  go_wp2_with fail
  refine(HSP.out _).mono ?_
  intro e w3 h3;obtain⟨rfl,hb3⟩:=h3.none HNO.out;have Y:=(HX.out.step hb3).alloc (.cells #[.slice none 0 0,.slice none 0 0,.int .i64 0,.int .i64 0,.int .i64 0] 29);have Z:=(A8.new w3 #[.slice none 0 0,.slice none 0 0,.int .i64 0,.int .i64 0,.int .i64 0] 29);have HY:=Ai1 (And.intro Y Z)
  have HS:Hid (∀W,Calls Vp.prog 8 #[.agg #[.slice none 0 0,.slice none 0 0,.int .i64 0,.int .i64 0,.int .i64 0],.agg #[.slice none 0 0,.slice none 0 0,.int .i64 0,.int .i64 0,.int .i64 0]] W fun e w'=>e=.returned (.bool true)/\Below W.heap.size W w'):=fun W =>
   Mg none none none none 0 0 0 0 0 [] [] rfl rfl (by omega) 0 0 0 W (Sl.nil _ _) (Sl.nil _ _) (Sl.nil _ _) (Sl.nil _ _)
  clear x0 x1 x2 x3 x4 h3 hb3 HX;obtain⟨x0,x1,x2,x3,x4⟩:=Y.Aa;obtain⟨y0,y1,y2,y3,y4⟩:=Z.Aa;clear Y Z;unfold Z3
  go_wp2_with fail
  refine(HS.out _).mono ?_
  rintro e w4 ⟨rfl,hb4⟩;clear x0 x1 x2 x3 x4 y0 y1 y2 y3 y4;obtain⟨x0,x1,x2,x3,x4⟩:=(HY.out.1.step hb4).Aa;obtain⟨y0,y1,y2,y3,y4⟩:=(HY.out.2.step hb4).Aa
  go_wp2_with fail
  refine(HS.out _).mono ?_
  rintro e w5 ⟨rfl,-⟩
  go_wp2
  go_ret
  rfl
 ·obtain⟨s1,hs1⟩:∃s,s=Yw ⟨size,A4,cx,cy,d0⟩ 1 L:=⟨_,rfl⟩;obtain⟨s2,hs2⟩:∃s,s=Yw ⟨size,A4,cx,cy,d0⟩ (-1) L:=⟨_,rfl⟩;obtain⟨s3,hs3⟩:∃s,s=Yw ⟨size,A4,cx,cy,d0⟩ 0 L:=⟨_,rfl⟩;have HSM:=Ai1 (And.intro hs1 (And.intro hs2 hs3));rw[<-hs1,<-hs2,<-hs3];clear hs1 hs2 hs3;have X:=A8.new w2 #[.slice (some ⟨gp,0,none⟩) n cp,.slice (some ⟨g,0,none⟩) n cap,.int .i64 s1,.int .i64 s2,.int .i64 s3] 29;obtain⟨x0,x1,x2,x3,x4⟩:=X.Aa;have HX:=Ai1 X;have HK:=Ai1 (And.intro k1 (And.intro k2 (And.intro k3 (And.intro k4 (And.intro k5 (And.intro k6 k7))))));have HR:=Ai1 (And.intro (Dv r1) (Dv r2));have HL:=Ai1 (And.intro r3 r4);have H7:=Ai1 r7;have hcp:=Qu r5 r1;have hcap:=Qu r5 r2;clear X k1 k2 k3 k4 k5 k6 k7 r1 r2 r3 r4 r7 hb2
  go_wp2_with fail
  refine(HSP.out _).mono ?_
  intro e w3 h3;obtain⟨⟨gp',cp',g',cap',n',P',rfl,q1,q2,q3,q4,-,-,-⟩,hb3⟩:=h3.told HK.out.1 HK.out.2.1 HK.out.2.2.1 HK.out.2.2.2.1 HK.out.2.2.2.2.1 HK.out.2.2.2.2.2.1 HK.out.2.2.2.2.2.2;obtain rfl:n=n':=HL.out.2.symm.trans q4;obtain rfl:P=P':=A25 (HL.out.1.trans q3.symm);rw[<-HSM.out.1,<-HSM.out.2.1,<-HSM.out.2.2];have hb23:Below w2.heap.size w2 (w3.alloc (.cells #[.slice (some ⟨gp',0,none⟩) n cp',.slice (some ⟨g',0,none⟩) n cap',.int .i64 s1,.int .i64 s2,.int .i64 s3] 29)):=(HX.out.step hb3).alloc _ |>.old
  have Y:=(HX.out.step hb3).alloc (.cells #[.slice (some ⟨gp',0,none⟩) n cp',.slice (some ⟨g',0,none⟩) n cap',.int .i64 s1,.int .i64 s2,.int .i64 s3] 29);have Z:=(A8.new w3 #[.slice (some ⟨gp',0,none⟩) n cp',.slice (some ⟨g',0,none⟩) n cap',.int .i64 s1,.int .i64 s2,.int .i64 s3] 29);have HR3:=Ai1 (And.intro (HR.out.1.step hb23) (HR.out.2.step hb23));have HS:=Ai1 (Mg (some ⟨gp,0,none⟩) (some ⟨gp',0,none⟩) (some ⟨g,0,none⟩) (some ⟨g',0,none⟩) n cp cp' cap cap' P (L.map (Mc ⟨size,A4,cx,cy,d0⟩ 0)) (by have:=congrArg List.length HL.out.1;rw[Ajp]at this;rw[this,HL.out.2]) (by rw[Ajp];exact HL.out.2) (by omega) s1 s2 s3 _ HR3.out.1 ((Dv q1).step Z.old) HR3.out.2 ((Dv q2).step Z.old))
  have HY:=Ai1 Y;clear x0 x1 x2 x3 x4 h3 hb3 HX hb23 q1 q2 q3 q4 HR;obtain⟨x0,x1,x2,x3,x4⟩:=Y.Aa;obtain⟨y0,y1,y2,y3,y4⟩:=Z.Aa;clear Y Z
  go_wp2_with fail
  refine HS.out.mono ?_
  rintro e w4 ⟨rfl,hb4⟩;have HY4:=Ai1 (HY.out.step hb4);have HR4:=Ai1 (And.intro (HR3.out.1.step hb4) (HR3.out.2.step hb4));clear x0 x1 x2 x3 x4 y0 y1 y2 y3 y4 hb4 HS HY HR3;obtain⟨x0,x1,x2,x3,x4⟩:=HY4.out.Aa
  go_wp2
  go_loopw [12] (fun iv wr=>∃k:Nat,k<=n/\iv=.int .i64 k/\Hid (Below w4.heap.size w4 wr)) (fun iv _=>(n-intOf iv).toNat)
  case atStart=>exact⟨0,by omega,rfl,Aik _ _⟩
  case round =>
   obtain⟨k,hk,rfl,HB⟩:=hrel;obtain⟨wo,rfl⟩:∃wo,wo=wr:=⟨_,rfl⟩;have HYk:=Ai1 (HY4.out.step HB.out);have HRk:=Ai1 (And.intro (HR4.out.1.step HB.out) (HR4.out.2.step HB.out));clear x0 x1 x2 x3 x4;obtain⟨x0,x1,x2,x3,x4⟩:=HYk.out.Aa
   by_cases hlt:k<n
   ·have hPl:P.length=n:=by have:=congrArg List.length HL.out.1;rw[Ajp]at this;rw[this,HL.out.2]
    obtain⟨s,hs⟩:∃s,P[k]?=some s:=⟨_,Aig (by omega)⟩
    have c0:=A5o HRk.out.1 (show(P.map Value.string)[k]?=some (.string s) by rw[Aiw,hs];rfl)
    have HLK:Hid (L[k]?=some s.toList):=by
     show _=_
     rw[<-HL.out.1,Aiw,hs];rfl
    have b5:(k:Int)<n:=by omega
    have b6:(0:Int)<=k:=by omega
    clear hs hPl
    go_wp2_with fail
    refine(A0l cx cy d0 deep size A4 HK.out.1 s hx hy _).mono ?_
    rintro e w5 ⟨hb5,rfl |⟨t,rfl,ht,hat⟩⟩
    ·have HB5:=Ai1 ((HB.out.trans (hb5.mono HB.out.size)).alloc (by have:=HB.out.size;have:=hb5.size;omega) (.cells #[.complex .f32 0 0,.int .i64 0,.int .i64 0,.slice none 0 0,.slice none 0 0] 35))
     have Z:=A8.new w5 #[.complex .f32 0 0,.int .i64 0,.int .i64 0,.slice none 0 0,.slice none 0 0] 35;obtain⟨z0,z1,z2,z3,z4⟩:=Z.Aa;clear Z hb5 HB x0 x1 x2 x3 x4 c0
     go_wp2_with fail
     refine(Qd _).mono ?_
     rintro e w6 ⟨⟨a6,rfl⟩,hb6⟩;have HB6:=Ai1 (HB5.out.trans (hb6.mono HB5.out.size));clear z0 z1 z2 z3 z4 hb6 HB5
     go_upto_region 13 with fail
     go_quiet (fail)
     have HB7:=Ai1 (HB6.out.trans ((((Aq.refl _).drewN nq).below _).mono HB6.out.size))
     go_wp2
     go_roundw
     case rel=>exact⟨k+1,by omega,by go_num,HB7⟩
     case measure=>simp[intOf];omega
    ·obtain⟨m,hm⟩:∃m:Int,m=(cnt 0 t.ys:Nat):=⟨_,rfl⟩
     have hop:((L.map (Mc ⟨size,A4,cx,cy,d0⟩ 0)).map Av)[k]?=some (.int .i64 m):=by
      rw[Aiw,Aiw,HLK.out,hm,<-Hi hat 0];rfl
     have HOP:=Ai1 hop;have HB5:=Ai1 ((HB.out.trans (hb5.mono HB.out.size)).alloc (by have:=HB.out.size;have:=hb5.size;omega) (.cells #[.complex .f32 t.cx t.cy,.int .i64 t.deep,.int .i64 t.size,.slice (some ⟨t.gs,0,none⟩) t.n t.cs,.slice (some ⟨t.gm,0,none⟩) t.n t.cm] 35))
     have Z:=A8.new w5 #[.complex .f32 t.cx t.cy,.int .i64 t.deep,.int .i64 t.size,.slice (some ⟨t.gs,0,none⟩) t.n t.cs,.slice (some ⟨t.gm,0,none⟩) t.n t.cm] 35;have CC:=U6 t _ _ (ht.step Z.old);rw[<-hm]at CC;replace CC:=Ai1 CC;obtain⟨z0,z1,z2,z3,z4⟩:=Z.Aa;clear Z hb5 HB x0 x1 x2 x3 x4 c0 hop hm ht hat;generalize ((cnt 1 t.ys:Nat):Int)=m1 at *;generalize ((cnt (-1) t.ys:Nat):Int)=m2 at *
     go_wp2_with fail
     refine CC.out.mono ?_
     rintro e w6 ⟨b6,rfl,hB6⟩;have HB6:=Ai1 (HB5.out.trans (hB6.old.mono HB5.out.size));have z2':=hB6.cell 2 _ rfl;clear z0 z1 z2 z3 z4 HB5 CC hB6;have x1:=(HY4.out.step HB6.out).cell 1 _ rfl;have o0:=A5o (HR4.out.2.step HB6.out) HOP.out
     go_upto_region 13 with fail
     go_quiet (fail)
     have HB7:=Ai1 (HB6.out.trans ((((Aq.refl _).drewN nq).below _).mono HB6.out.size));clear x1 o0 z2'
     go_wp2
     go_roundw
     case rel=>exact⟨k+1,by omega,by go_num,HB7⟩
     case measure=>simp[intOf];omega
   ·go_wp2
    go_ret
    rfl
end
section
open Go.RowKit Go.Conc Co Ok Lr Tl Bar
def cutAt (W:World)(b:Nat)(C:Array Value)(t:TypeId)(n:Nat):World:={ W with heap:=W.heap.setIfInBounds b (.cells (C.extract 0 n) t (0,(C.extract 0 n).size)) }
section
variable {W : World} {b off : Nat} {C : Array Value} {t : TypeId} {fr : Nat × Nat} {xs : List Value} (hb : W.heap[b]? = some (.cells C t fr)) (hs : ∀ i v, xs[i]? = some v -> W.cell? ⟨b, off + i, none⟩ = some v)
include hb hs
theorem Ae9 {tV:TypeId}:Sl (cutAt W b C tV (off+xs.length)) (some ⟨b,off,none⟩) xs:=by
 refine .inr ⟨b,off,rfl,fun i v hv=>?_⟩
 have h:=hs i v hv;have hlt:b<W.heap.size:=(Ai2.1 hb).1;have hi:i<xs.length:=(Aii.1 hv).1;unfold World.cell? at h ⊢;rw[hb]at h
 have hc:(cutAt W b C tV (off+xs.length)).heap[b]?=some (.cells (C.extract 0 (off+xs.length)) tV (0,(C.extract 0 (off+xs.length)).size)):=by
  unfold cutAt;simp[hlt]
 rw[hc];have h:C[off+i]?=some v:=h
 show(C.extract 0 (off+xs.length))[off+i]?=some v
 rw[Array.getElem?_extract,Aij (by have:=(Ai2.1 h).1;omega),Ak1]
 exact h
theorem A8v {i:Nat}{v:Value}(hi:off<=i)(h1:(C.extract 0 (off+xs.length))[i]?=some v):v∈xs/\C[i]?=some v:=by
 rw[Array.getElem?_extract]at h1
 split at h1
 ·rename_i hlt
  rw[Ak1]at h1
  have hj:i-off<xs.length:=by
   omega
  obtain⟨u,hu⟩:∃u,xs[i-off]?=some u:=⟨_,Aig hj⟩;have h:=hs (i-off) u hu;unfold World.cell? at h;rw[hb]at h;have h:C[off +(i-off)]?=some u:=h;rw[Nat.add_sub_cancel' hi,h1]at h
  cases h
  exact⟨Aiu hu,h1⟩
 ·cases h1
end
abbrev tNo:TypeId:=1000000007
theorem Afm:Vp.prog.info? tNo=none:=by kernel_rfl
theorem Aci {P:Program}{t:TypeId}(h1:P.cellsOf t=1)(h2:P.bytesOf t=1)(hu:∀d off,byteOfCell P (d+1) t off=if off=0 then some 0 else none)(hv:∀d off,cellOfByte P (d+1) t off=if off=0 then some 0 else none):∀n l,mvP P t n l:=by
 intro n l off m off' hl hm h;have hd:P.depth=2 *(P.types.size+Made.depth)+1+1:=rfl;unfold cellAtBytes at h;rw[h1,h2,hd]at h;simp only[hu,hv,Nat.mod_one,Nat.div_one,Alq,Amg]at h;simp at h
 omega
theorem Afr {X:Cx}{B:Lk}{V W:World}(h:WR X B V W):WR X B { V with tape:=W.tape,drawn:=W.drawn } W:=by
 have h1:=h.tape;have h2:=h.drawn;rw[h1,h2]
 exact h
end
section
open Go.RowKit Go.Conc Co Ok Lr Tl Bar
structure Of (cl gl:List Nat)(f:Nat):Prop where
 Ahb:(cl.filter fun f=>!(ext.contains f)).all (chk Vp.prog tmL cl gl)=true
 Ahc:((15 :: cl).filter fun f=>!(ext.contains f)).all (chk Vp.prog [] (15 :: cl) gl)=true
 not:cl.contains 15=false
 mem:cl.contains f=true
 ini:Tryz.prog.inits.idxOf? f=none
section
variable {cl gl : List Nat} {f : Nat} (R : Of cl gl f) {Q : String -> Code -> Prop} {F : Nat -> Prop} {L : Nat -> Nat} {lf : ∀ b, L b ≠ 0 -> F b} (hg0 : ∀ g ∈ gl, L g = 0)
include R hg0
theorem Adg:Whole (Rq Vp.prog tmL cl gl Q (fun _=>False) F False L lf) Vp.prog Tryz.prog :=
 Wy Q6 Vp.Oa.symm Vp.size.symm (fun f hf=>by
  have ht:f≠15:=fun e=>by
   subst e;have:=R.not;rw[Bool.eq_false_iff]at this
   exact this (by simpa using hf)
  exact⟨A2k R.Ahb f hf,fun n hn=>by simp only[Ake,Prod.mk.injEq]at hn;exact ht hn.1,Acu ht⟩)
 (fun f ⟨n,hn⟩=>by
  simp only[Ake,Prod.mk.injEq]at hn;obtain⟨rfl,_⟩:=hn
  exact⟨Vp.fT,Tryz.f15,Vp.Pk,Tryz.func15,by kernel_rfl,by kernel_rfl,by kernel_rfl,by kernel_rfl,by kernel_rfl⟩)
 A60 fun g h=>⟨id,hg0 g h⟩
theorem Adh:Whole (Rq Vp.prog [] (15 :: cl) gl Q (fun _=>False) F False L lf) Vp.prog Vp.prog :=
 Wz Q6 rfl rfl (fun f hf=>⟨A2k R.Ahc f hf,(fun n hn=>by cases hn),rfl⟩) (fun f ⟨n,hn⟩=>by cases hn) (fun f=>.inl rfl) fun g h=>⟨id,hg0 g h⟩
theorem A90 (hV:A2j){args:Array Value}{W0 V0:World}{B:Lk}(hB:∀x y,B x y->F x)
 (hw:WR (Rq Vp.prog tmL cl gl Q (fun _=>False) F False L lf) B V0 W0) (hwV:WR (Rq Vp.prog [] (15 :: cl) gl Q (fun _=>False) F False L lf) B V0 V0)
 (ha:AR (Rq Vp.prog tmL cl gl Q (fun _=>False) F False L lf) B args args) (haV:AR (Rq Vp.prog [] (15 :: cl) gl Q (fun _=>False) F False L lf) B args args)
 (hc:∀τ d,Calls Vp.prog f args { V0 with tape:=τ,drawn:=d } fun e _=>e=.returned (.bool true)) :
 Co.Ends Tryz.prog (fun v w'=>v=.bool true/\Below W0.heap.size W0 w') #[G (Frame.enter Tryz.prog f args .normal) []] W0 none #[]:=by
 have hmem:f∈cl:=by simpa using R.mem
 have hnot:¬∃n,(f,n)∈tmL:=fun⟨n,hn⟩=>by
  simp only[Ake,Prod.mk.injEq]at hn;obtain⟨rfl,_⟩:=hn;have:=R.not;rw[R.mem]at this
  cases this
 have hT:=Adg R hg0 (Q:=Q) (F:=F) (L:=L) (lf:=lf);have hTV:=Adh R hg0 (Q:=Q) (F:=F) (L:=L) (lf:=lf);have noT:∀f,¬(Rq Vp.prog [] (15 :: cl) gl Q (fun _=>False) F False L lf).T f:=fun f ⟨n,hn⟩=>by cases hn
 have hfV:Ee (Rq Vp.prog [] (15 :: cl) gl Q (fun _=>False) F False L lf) B (Frame.enter Vp.prog f args .normal) (Frame.enter Vp.prog f args .normal):=by
  rcases Nf (P:=Vp.prog) (P':=Vp.prog) (B:=B) (cs:=[]) (cs':=[]) hTV.hF (f:=f) (.inl (List.mem_cons_of_mem _ hmem)) (fun h=>absurd h (noT _)) haV .normal (fun h=>absurd h (noT _)) .nil with⟨h,_⟩ |⟨g,_,_,_,⟨h,_⟩,_⟩
  ·exact h
  ·exact absurd h (noT _)
 have hf:Ee (Rq Vp.prog tmL cl gl Q (fun _=>False) F False L lf) B (Frame.enter Vp.prog f args .normal) (Frame.enter Tryz.prog f args .normal):=by
  rcases Nf (P:=Vp.prog) (P':=Tryz.prog) (B:=B) (cs:=[]) (cs':=[]) hT.hF (f:=f) (.inl hmem) (fun h=>absurd h hnot) ha .normal (fun h=>absurd h hnot) .nil with⟨h,_⟩ |⟨g,p,p',k,⟨hg,_⟩,_,e,_⟩
  ·exact h
  ·obtain rfl:f=g:=congrArg Frame.fn e
   exact absurd hg hnot
 have hway:=Afq hTV noT (Q:=fun v _=>v=.bool true) (fun _ _ _ _ h=>h) (f:=f) (args:=args) (V:=V0) ⟨B,V0,_,_,hwV,hfV,.nil,rfl⟩ fun τ d=>(hc τ d).mono fun e w h=>by
  subst h
  exact rfl
 have hs:=sim (Post:=fun v w'=>v=.bool true/\Below W0.heap.size W0 w') (m0:=W0.heap.size) (w0:=W0) hT id (Q:=fun v _=>v=.bool true) (Aa0 hV (fun x hx=>Fin.pop hx.1) _ _ _) (fun _ _ _ _ h=>h) (fun x hx=>⟨hx.1,by rw[hx.2];exact R.ini⟩)
  (fun B V v v' W hv hvv _ hk=>by
   subst hv
   cases hvv
   exact⟨rfl,⟨hk.os.1,hk.tape,hk.os.2,hk.size,hk.old⟩⟩) hway
 exact hs B W0.tape W0.drawn #[G (Frame.enter Tryz.prog f args .normal) []] W0 none #[] (fun _=>0) _ [] (Afr hw) hf .nil rfl ⟨fun x y h hn=>absurd (hB x y h) hn,Ai3 _,fun _ _=>rfl,rfl,⟨rfl,rfl⟩⟩ rfl (leavers_one _ _) (past_nil.mono (Aj9 _))
end
end
section
open Go.Conc Co Ok Lr Tl Bar
def A1d:List Nat:=[3,5,6,7,8,9,10,12,13,14,16,17,18,19,20,21,22,23,24,25,26,27,30,31,34,35,36,37,38,39,40,41,42,43,44,45,46,47,48,49,50,51,52,53,54,55,56,60,61,62,63,64,65,66,67,68,69,70,71,72,73,74,75,76,82,83,84,85,86,87,88,89,90,91,92,93,94,95,96,97,98,99,100,101,102,116,117,118,119,120,121,122,123,124,125,126,136,137,138,139,140,144,145,146,147,164,165,166,167]
theorem Aa1:(A1d.filter fun f=>!(ext.contains f)).all (chk Vp.prog tmL A1d [1])=true:=by kernel_rfl
theorem Aa2:((15 :: A1d).filter fun f=>!(ext.contains f)).all (chk Vp.prog [] (15 :: A1d) [1])=true:=by kernel_rfl
theorem Af1:Of A1d [1] 3:=⟨Aa1,Aa2,by kernel_rfl,by kernel_rfl,by kernel_rfl⟩
end
section
open Go.RowKit Go.Conc Co Ok Lr Tl Bar
def idB (S:Nat->Prop):Lk:=fun x y=>S x/\y=x
theorem Ah1 {X:Cx}{S:Nat->Prop}{V W:World}(h1:W.tape=V.tape)(h2:W.drawn=V.drawn)(h3:W.os=V.os)(h4:W.output=V.output)(h5:W.heap.size=V.heap.size)(hN:X.N<=W.heap.size)
 (hF:∀x,X.F x↔S x) (hG:∀x,X.G x->S x) (hD:∀x,¬X.D x)
 (hS:∀x,S x->x<V.heap.size/\∃c c' t t' f,V.heap[x]?=some (.cells c t (0,c.size))/\W.heap[x]?=some (.cells c' t' f)/\PR X (idB S) (X.L x) c c'/\TyR X x t t' c.size):WR X (idB S) V W:=by
 refine⟨h1,h2,h3,h4,?_,?_,fun g h=>⟨hG g h,rfl⟩,?_,?_,fun x y _ h=>absurd h (hD x),fun x h=>absurd h (hD x),fun x h=>(hS x ((hF x).1 h)).1,?_,by rw[<-h5];exact hN,hN⟩
 ·rintro x y z ⟨_,rfl⟩ ⟨_,rfl⟩
  rfl
 ·rintro x y z ⟨_,rfl⟩ ⟨_,h⟩
  exact h
 ·rintro x y ⟨hs,rfl⟩ _ hn
  exact absurd ((hF _).2 hs) hn
 ·rintro x y ⟨hs,rfl⟩ _ _
  exact(hS _ hs).2
 ·rintro x y ⟨_,rfl⟩
  exact Iff.rfl
end
section
open Go.RowKit Go.Conc Co Ok Lr Tl Bar
section
variable {cl gl : List Nat} {f : Nat} (R : Of cl gl f)
include R
theorem Pj (hV:A2j){args:Array Value}{W0 V0:World}{S:Nat->Prop}{L:Nat->Nat}(lf:∀b,L b≠0->S b)(hgS:∀g∈gl,S g)(hg0:∀g∈gl,L g=0)(hN:Vp.prog.globals.size<=W0.heap.size)
 (e1:V0.tape=W0.tape) (e2:V0.drawn=W0.drawn) (e3:V0.os=W0.os) (e4:V0.output=W0.output) (e5:V0.heap.size=W0.heap.size)
 (hS:∀x,S x->∃c c' t t' f',V0.heap[x]?=some (.cells c t (0,c.size))/\W0.heap[x]?=some (.cells c' t' f')/\c.size<=c'.size /\(∀i v,L x<=i->c[i]?=some v ->(∃k n,v=.int k n)/\c'[i]?=some v) /\
  ((L x=0/\t'=t) \/(L x≠0/\x<Vp.prog.globals.size/\t'=t/\∀n l,mvP Vp.prog t n l) \/(L x≠0/\Vp.prog.globals.size<=x/\Vp.prog.info? t=none)))
 (ha:∀X:Cx,X.L=L ->(∀g,¬X.D g)->AR X (idB S) args args)
 (hc:∀τ d,Calls Vp.prog f args { V0 with tape:=τ,drawn:=d } fun e _=>e=.returned (.bool true)) :
 Co.Ends Tryz.prog (fun v w'=>v=.bool true/\Below W0.heap.size W0 w') #[G (Frame.enter Tryz.prog f args .normal) []] W0 none #[]:=by
 have key:∀(X:Cx) (W:World),X.N=Vp.prog.globals.size->X.L=L ->(∀x,X.G x->x∈gl) ->(∀x,X.F x↔S x) ->(∀x,¬X.D x)->X.Mv=mvP Vp.prog ->(∀t,Vp.prog.info? t=none->X.Z t) ->
  W.tape=W0.tape->W.drawn=W0.drawn->W.os=W0.os->W.output=W0.output->W.heap.size=W0.heap.size ->
  (∀x,S x->∃c c' t t' f',V0.heap[x]?=some (.cells c t (0,c.size))/\W.heap[x]?=some (.cells c' t' f')/\c.size<=c'.size /\(∀i v,L x<=i->c[i]?=some v ->(∃k n,v=.int k n)/\c'[i]?=some v) /\
   ((L x=0/\t'=t) \/(L x≠0/\x<Vp.prog.globals.size/\t'=t/\∀n l,mvP Vp.prog t n l) \/(L x≠0/\Vp.prog.globals.size<=x/\Vp.prog.info? t=none)))->WR X (idB S) V0 W:=by
  intro X W h1 h2 h3 h4 h5 h6 h7 i1 i2 i3 i4 i5 hS
  refine Ah1 (i1.trans e1.symm) (i2.trans e2.symm) (i3.trans e3.symm) (i4.trans e4.symm) (i5.trans e5.symm) (by rw[h1,i5];exact hN) h4 (fun x hx=>hgS x (h3 x hx)) h5 fun x hx=>?_
  obtain⟨c,c',t,t',f',k1,k2,k3,k4,k5⟩:=hS x hx
  refine⟨(Ai2.1 k1).1,c,c',t,t',f',k1,k2,⟨k3,fun i v v' hi g1 g2=>?_⟩,?_⟩
  ·rw[h2]at hi;obtain⟨⟨k,n,rfl⟩,g3⟩:=k4 i v hi g1;rw[g3]at g2
   cases g2
   exact .int _ _
  ·unfold TyR;rw[h1,h2,h6]
   rcases k5 with⟨k5,rfl⟩ |⟨k5,k6,rfl,k7⟩ |⟨k5,k6,k7⟩
   ·exact .inr ⟨.inl k5,rfl,.inl k5⟩
   ·exact .inr ⟨.inr k6,rfl,.inr (k7 _ _)⟩
   ·exact .inl ⟨k5,k6,h7 _ k7⟩
 exact A90 R hg0 hV (Q:=fun _ _=>False) (F:=S) (L:=L) (lf:=lf) (B:=idB S) (V0:=V0) (fun x y h=>h.1)
  (key _ W0 rfl rfl (fun x h=>h) (fun _=>Iff.rfl) (fun _=>id) rfl (fun _=>id) rfl rfl rfl rfl rfl hS)
  (key _ V0 rfl rfl (fun x h=>h) (fun _=>Iff.rfl) (fun _=>id) rfl (fun _=>id) e1 e2 e3 e4 e5 fun x hx=>by
   obtain⟨c,c',t,t',f',k1,k2,k3,k4,k5⟩:=hS x hx
   refine⟨c,c,t,t,_,k1,k1,Ai3 _,fun i v hi g=>⟨(k4 i v hi g).1,g⟩,?_⟩
   rcases k5 with⟨k5,rfl⟩ |⟨k5,k6,rfl,k7⟩ |⟨k5,k6,k7⟩
   ·exact .inl ⟨k5,rfl⟩
   ·exact .inr (.inl ⟨k5,k6,rfl,k7⟩)
   ·exact .inr (.inr ⟨k5,k6,k7⟩))
  (ha _ rfl (fun _=>id)) (ha _ rfl (fun _=>id)) hc
end
def A4m (g:Nat)(W:World):Prop:=∀b C t fr,b≠g->b<Vp.prog.globals.size->W.heap[b]?=some (.cells C t fr)->∀n l,mvP Vp.prog t n l
def Z5 (W:World)(g:Nat)(C:Array Value)(t:TypeId):World:={ W with heap:=W.heap.setIfInBounds g (.cells C t (0,C.size)) }
section
variable {cl : List Nat} {g f : Nat} (R : Of cl [g] f)
include R
theorem A03 (hV:A2j){a:Option Addr}{c:Nat}{bs:List UInt8}{W0:World}{CT:Array Value}{tT:TypeId}{frT:Nat×Nat}(hN:Vp.prog.globals.size<=W0.heap.size)(hL:A4m g W0)
 (hgb:W0.heap[g]?=some (.cells CT tT frT)) (hfl:∀(i:Nat) v,CT[i]?=some v->∃k n,v=.int k n) (hs:Sl W0 a (bs.map Cz))
 (hblk:∀x,a=some x->∃b off C t fr,x=⟨b,off,none⟩/\W0.heap[b]?=some (.cells C t fr))
 (hlaw:∀w,(∀j,w.cell? ⟨g,j,none⟩=CT[j]?)->Sl w a (bs.map Cz)->Calls Vp.prog f #[.slice a bs.length c] w fun e _=>e=.returned (.bool true)) :
 Co.Ends Tryz.prog (fun v w'=>v=.bool true/\Below W0.heap.size W0 w') #[G (Frame.enter Tryz.prog f #[.slice a bs.length c] .normal) []] W0 none #[]:=by
 have hgl:g<W0.heap.size:=(Ai2.1 hgb).1
 have hg0:(Z5 W0 g CT tT).heap[g]?=some (.cells CT tT (0,CT.size)):=by
  unfold Z5;simp[hgl]
 have hgsz:(Z5 W0 g CT tT).heap.size=W0.heap.size:=by
  unfold Z5;simp
 have hother:∀b,b≠g ->(Z5 W0 g CT tT).heap[b]?=W0.heap[b]?:=fun b hb=>by
  unfold Z5;simp[Ait,Akx hb]
 have hcells:∀x,(Z5 W0 g CT tT).cell? x=W0.cell? x:=fun x=>by
  unfold World.cell?
  by_cases hb:x.block=g
  ·rw[hb,hg0,hgb]
  ·rw[hother _ hb]
 have htab:∀j,(Z5 W0 g CT tT).cell? ⟨g,j,none⟩=CT[j]?:=fun j=>by
  unfold World.cell?;rw[hg0]
  rfl
 have hsl:Sl (Z5 W0 g CT tT) a (bs.map Cz):=by
  rcases hs with h |⟨b',off',e,h⟩
  ·exact .inl h
  ·exact .inr ⟨b',off',e,fun i v hv=>by rw[hcells];exact h i v hv⟩
 have one:∀x,x=g->∃c c' t t' f',(Z5 W0 g CT tT).heap[x]?=some (.cells c t (0,c.size))/\W0.heap[x]?=some (.cells c' t' f')/\c.size<=c'.size /\(∀i v,0<=i->c[i]?=some v ->(∃k n,v=.int k n)/\c'[i]?=some v) /\
  (((0:Nat)=0/\t'=t) \/((0:Nat)≠0/\x<Vp.prog.globals.size/\t'=t/\∀n l,mvP Vp.prog t n l) \/((0:Nat)≠0/\Vp.prog.globals.size<=x/\Vp.prog.info? t=none)):=by
  rintro x rfl
  exact⟨CT,CT,tT,tT,frT,hg0,hgb,Ai3 _,fun i v _ h=>⟨hfl i v h,h⟩,.inl ⟨rfl,rfl⟩⟩
 have alone:(∀x,a=some x->x.block=g/\x.spot=none)->Co.Ends Tryz.prog (fun v w'=>v=.bool true/\Below W0.heap.size W0 w') #[G (Frame.enter Tryz.prog f #[.slice a bs.length c] .normal) []] W0 none #[]:=fun hin =>
  Pj R hV (W0:=W0) (V0:=Z5 W0 g CT tT) (S:=fun x=>x=g) (L:=fun _=>0) (fun _ h=>absurd rfl h) (fun x hx=>by simpa using hx) (fun _ _=>rfl) hN rfl rfl rfl rfl hgsz one
   (fun X h1 h2=>AR.one (by
    cases a with
    | none=>exact .Kv _ _
    | some x =>
      obtain⟨k1,k2⟩:=hin x rfl;obtain⟨b,off,s⟩:=x;dsimp only at k1 k2;subst k1 k2
      exact .slice _ _ ⟨⟨⟨rfl,rfl⟩,h2 _⟩,⟨rfl,by rw[h1];exact Aj9 _⟩,rfl⟩))
   fun τ d=>hlaw _ htab hsl
 cases a with
 | none=>exact alone fun x h=>by cases h
 | some x =>
   obtain⟨b,off,C,t,fr,rfl,hb⟩:=hblk x rfl
   by_cases hbg:b=g
   ·exact alone fun x h=>by cases h;exact⟨hbg,rfl⟩
   have hlt:b<W0.heap.size:=(Ai2.1 hb).1
   have hs':∀i v,(bs.map Cz)[i]?=some v->W0.cell? ⟨b,off+i,none⟩=some v:=by
    rcases hs with h |⟨b',off',e,h⟩
    ·intro i v hv;rw[h]at hv;simp at hv
    ·cases e
     exact h
   have hb':(Z5 W0 g CT tT).heap[b]?=some (.cells C t fr):=by rw[hother b hbg];exact hb
   have hs2:∀i v,(bs.map Cz)[i]?=some v ->(Z5 W0 g CT tT).cell? ⟨b,off+i,none⟩=some v:=fun i v hv=>by rw[hcells];exact hs' i v hv
   obtain⟨tV,htV⟩:∃tV:TypeId,tV=if off=0\/b<Vp.prog.globals.size then t else tNo:=⟨_,rfl⟩
   have hc0:(cutAt (Z5 W0 g CT tT) b C tV (off +(bs.map Cz).length)).heap[b]?=some (.cells (C.extract 0 (off +(bs.map Cz).length)) tV (0,(C.extract 0 (off +(bs.map Cz).length)).size)):=by
    unfold cutAt;simp[hgsz,hlt]
   have hcg:(cutAt (Z5 W0 g CT tT) b C tV (off +(bs.map Cz).length)).heap[g]?=some (.cells CT tT (0,CT.size)):=by
    unfold cutAt;simp only[Ait,hbg,Alx]
    exact hg0
   have hsz:(cutAt (Z5 W0 g CT tT) b C tV (off +(bs.map Cz).length)).heap.size=W0.heap.size:=by
    unfold cutAt;simp[hgsz]
   refine Pj R hV (W0:=W0) (V0:=cutAt (Z5 W0 g CT tT) b C tV (off +(bs.map Cz).length)) (S:=fun x=>x=g\/x=b) (L:=fun x=>if x=b then off else 0) (fun x h=>?_) (fun x hx=>.inl (by simpa using hx)) (fun x hx=>?_) hN rfl rfl rfl rfl hsz ?_ ?_ ?_
   ·by_cases e:x=b
    ·exact .inr e
    ·rw[Aid e]at h
     exact absurd rfl h
   ·obtain rfl:x=g:=by simpa using hx
    exact Aid fun e=>hbg e.symm
   ·rintro x (rfl|rfl)
    ·rw[Aid fun e=>hbg e.symm]
     exact⟨CT,CT,tT,tT,frT,hcg,hgb,Ai3 _,fun i v _ h=>⟨hfl i v h,h⟩,.inl ⟨rfl,rfl⟩⟩
    ·rw[Aij rfl]
     refine⟨_,C,tV,t,fr,hc0,hb,by rw[Array.size_extract];omega,fun i v hi h=>?_,?_⟩
     ·obtain⟨h3,h4⟩:=A8v hb hs' hi h;obtain⟨y,_,rfl⟩:=Aj5.1 h3
      exact⟨⟨_,_,rfl⟩,h4⟩
     ·by_cases h0:off=0
      ·rw[Aij (.inl h0)]at htV
       exact .inl ⟨h0,htV.symm⟩
      ·by_cases hgs:x<Vp.prog.globals.size
       ·rw[Aij (.inr hgs)]at htV;subst htV
        exact .inr (.inl ⟨h0,hgs,rfl,hL x C _ fr hbg hgs hb⟩)
       ·rw[Aid (fun h=>h.elim h0 hgs)]at htV
        exact .inr (.inr ⟨h0,Nat.le_of_not_lt hgs,by rw[htV];exact Afm⟩)
   ·intro X h1 h2
    exact AR.one (.slice _ _ ⟨⟨⟨.inr rfl,rfl⟩,h2 _⟩,⟨rfl,by rw[h1];exact Al3 (Aij rfl)⟩,rfl⟩)
   ·intro τ d
    refine hlaw _ (fun j=>?_) (Ae9 hb' hs2)
    unfold World.cell?;rw[show({ cutAt (Z5 W0 g CT tT) b C tV (off +(bs.map Cz).length)with tape:=τ,drawn:=d }:World).heap[g]?=some (.cells CT tT (0,CT.size))from hcg]
    rfl
end
end
section
open Go.ChangeShapes Go.WideShapes Go.ChangeAt Go.RowKit
def Lo (P:Program)(ts:List TypeId):Bool:=ts.all fun t=>P.readableRec t && decide (t<P.types.size)
theorem Mj {H:Type}{enc:TypeId×Value->H}{P:Program}(hl:laidOutB P=true){W W':World}(hb:Below W.heap.size W W') :
 ∀{ts:List TypeId} {vs:List Value} {ds:List (DataW H)} {ps:List MemPlace},Lo P ts=true ->
  DataW.TrodAll enc P W 0 (fun _=>true) true ts vs ds ps ->(∀x∈ps,x.block<W.heap.size) ->
  DataW.TrodAll enc P W' 0 (fun b=>decide (b<W.heap.size)) true ts vs ds ps
 | [],[],[],_,_,h,_=>h
 | [],[],_ :: _,_,_,h,_=>h.elim
 | [],_ :: _,_,_,_,h,_=>h.elim
 | _ :: _,[],_,_,_,h,_=>h.elim
 | _ :: _,_ :: _,[],_,_,h,_=>h.elim
 | t :: ts,v :: vs,d :: ds,ps,hv,h,hlt=>by
   obtain⟨p,q,h1,h2,rfl⟩:=h;simp only[Lo,List.all_cons,Aia,Aiv]at hv
   exact⟨p,q,Below.trod hl hv.1.1 hv.1.2 h1 hb (fun x hx=>hlt x (by simp[hx])),
    Mj hl hb (by simpa [Lo]using hv.2) h2 (fun x hx=>hlt x (by simp[hx])),rfl⟩
theorem A9n {H:Type}{enc:TypeId×Value->H}{P:Program}{fn:Func}{s:ChangeSpec}{apart:Bool}{W W':World}{args:Array Value}{ds gs:List (DataW H)}{before:List MemPlace}{tb:TypeId}
 (hl:laidOutB P=true) (hp:Lo P fn.params.toList=true) (hvr:varsRowed P s.vars=true) (hr:fn.resultTypes=#[tb]) (htb:P.underlying tb=some .bool)
 (hW:DataW.Whole enc P fn.params.toList s.vars apart W args.toList ds gs before)
 (hs:(s.fn H (ds++gs)).results=[.lit (.bool true)]) (ha:(s.fn H (ds++gs)).args=ds) (hv:(s.fn H (ds++gs)).vars=gs)
 (hb:Below W.heap.size W W'):s.post enc P fn apart true false false W args (.bool true) W':=by
 have hlt:=hW.lt;have hW2:=hW;obtain⟨p,q,hA,hV,rfl,hz,hn⟩:=hW
 refine⟨ds,gs,p++q,[],p,q,hW2,?_,?_,?_,?_,fun h=>by cases h⟩
 ·rw[hs,hr]
  exact trodAll_mk1 (shut_bool htb true)
 ·rw[ha]
  exact Mj hl hb hp hA (fun x hx=>hlt x (by simp[hx]))
 ·rw[hv]
  exact Below.trodVars hl hb hvr hV
 ·exact hb.frame _
theorem A56 {α:Type}{f:α->Value}{R:α->Prop}{V:Nat->Value}:∀{len:Nat},(∀i,i<len->∃x,V i=f x/\R x)->∃X:List α,X.length=len/\∀i x,X[i]?=some x->V i=f x/\R x
 | 0,_=>⟨[],rfl,by simp⟩
 | k+1,hV=>by
   obtain⟨X,hX,hX2⟩:=A56 (len:=k) (fun i hi=>hV i (by omega))
   obtain⟨x,hx⟩:=hV k (by omega)
   refine⟨X++[x],by simp[hX],fun i u hu=>?_⟩
   by_cases hi:i<X.length
   ·rw[Aka hi]at hu;exact hX2 i u hu
   ·rw[Akq (by omega)]at hu
    have:i-X.length=0:=by
     rcases Ajr (i-X.length)with h|h
     ·exact h
     ·rw[Am8 (by simp;omega)]at hu;cases hu
    rw[this]at hu;simp at hu;subst hu;obtain rfl:i=k:=by omega
    exact hx
theorem Ack {H:Type}{enc:TypeId×Value->H}{P:Program}{w:World}{base:Nat}{spare:Nat->Bool}{held:Bool}{t e:TypeId}{α:Type}{f:α->Value}{R:α->Prop}(ht:P.underlying t=some (.slice e))(hc:P.cellsOf e=1)
 (he:∀n v (y:DataW H×List MemPlace),DataW.trod enc P w base spare held n e [v]=some y->∃x,v=f x/\R x) {n:Nat} {v:Value} {y:DataW H×List MemPlace} (h:DataW.trod enc P w base spare held n t [v]=some y) :
 ∃(a:Option Addr) (c:Nat) (xs:List α),v=.slice a xs.length c/\xs.length<=maxLen/\Sl w a (xs.map f) /\(∀x∈xs,R x)/\xs.length<=c:=by
 rcases Deep.open_slice1 ht hc h with⟨h,_⟩ |⟨a,len,cap,m,n,V,D,Pl,hcs,_,hl,hm,hmm,_,hx⟩
 ·simp at h;exact⟨none,0,[],h,Aj9 _,.inl rfl,by simp,Ai3 _⟩
 ·have hlm:len<=m:=by rw[hmm];split<;>omega
  have hV:∀i,i<len->∃x,V i=f x/\R x:=fun i hi=>he _ _ _ (hx i (by omega)).2
  obtain⟨X,hX,hX2⟩:=A56 hV;simp at hcs;subst hcs
  refine⟨some a,cap,X,by rw[hX],by omega,?_,fun x hx=>?_,by omega⟩
  ·by_cases h0:len=0
   ·exact .inl (by rw[List.eq_nil_of_length_eq_zero (show X.length=0 by omega)];rfl)
   ·have hspot:a=⟨a.block,a.off,none⟩:=by
     have:=(hx 0 (by omega)).1
     obtain⟨b,o,s⟩:=a
     cases s with
     | none=>rfl
     | some s=>simp[Addr.add,World.cell?]at this;split at this<;>simp at this
    refine .inr ⟨a.block,a.off,by rw[<-hspot],fun i v hv=>?_⟩
    rw[Aiw]at hv;obtain⟨x,hx1,rfl⟩:=Aif.1 hv
    have hi:i<len:=by
     have:=(Aii.1 hx1).1;omega
    rw[<-(hX2 i x hx1).1,<-(hx i (by omega)).1]
    congr 1
    unfold Addr.add
    by_cases hi0:i=0
    ·rw[Aij hi0,hi0,Nat.add_zero];exact hspot.symm
    ·rw[Aid hi0]
  ·obtain⟨i,hi,rfl⟩:=Ane hx
   exact(hX2 i _ (Aig hi)).2
theorem A3j {H:Type}{enc:TypeId×Value->H}{P:Program}{w:World}{base:Nat}{spare:Nat->Bool}{held:Bool}{r:Reach}{b0:Nat}{t e:TypeId}{v:Value}{d:DataW H}{p:List MemPlace}(ht:P.underlying t=some (.slice e))(hu:P.underlying e=some (.int .u8))(hc:P.cellsOf e=1)
 (hv:Value.okWide P w r b0 t v) (h:DataW.Trod enc P w base spare held t v d p):∃(a:Option Addr) (c:Nat) (bs:List UInt8),v=.slice a bs.length c/\bs.length<=maxLen/\bs.length<=c/\Sl w a (bs.map Cz):=by
 obtain⟨fuel,hf⟩:=h;obtain⟨a,l,c,rfl⟩:∃a l c,v=.slice a l c:=okWide_slice ht hv
 obtain⟨a,c,xs,e,hn,hS,_,hc⟩:=Ack (f:=Cz) (R:=fun _=>True) ht hc (fun n v y hy=>by
  obtain⟨x,e,_,hw⟩:=DataW.trod_int hu hy;simp at e;subst e;have:x.toNat<256/\0<=x:=by simp[Lit.wf,IntKind.min,IntKind.max,IntKind.signed,IntKind.bits]at hw;omega
  refine⟨⟨⟨x.toNat,by omega⟩⟩,?_,trivial⟩
  unfold Cz
  congr 1
  show x=(x.toNat:Int)
  omega) (by simpa [Value.cells]using hf)
 exact⟨a,c,xs,e,hn,hc,hS⟩
end
section
open Go.ChangeShapes Go.WideShapes Go.ChangeAt Go.RowKit Go.Conc Ok
theorem A2y {P:Program}{w:World}(h:w.ShapedOpen P):P.globals.size<=w.heap.size:=by
 have hb:P.globals.size <(begin P (fun _ _=>0) default).world.heap.size:=by
  unfold begin;simp
  omega
 obtain⟨o,o0,h1,_⟩:=h.2 P.globals.size (Ai3 _) hb
 exact Aku (Ai2.1 h1).1
theorem A8o {P:Program}{w:World}{r:Reach}{b0:Nat}{t e:TypeId}{a:Option Addr}{l c:Nat}(ht:P.underlying t=some (.slice e))(hv:Value.okWide P w r b0 t (.slice a l c)) :
 ∀x,a=some x->∃b off C t fr,x=⟨b,off,none⟩/\w.heap[b]?=some (.cells C t fr):=by
 rintro x rfl;unfold Value.okWide at hv;rw[ht]at hv;unfold Cell.okWide at hv;rw[ht]at hv;have hv:Cell.ok P w r b0 t (.slice (some x) l c):=hv;unfold Cell.ok at hv;rw[ht]at hv;obtain⟨_,_,_,hs,row,cells,hsh,_⟩:=hv;obtain⟨b,off,s⟩:=x;dsimp only at hs hsh;subst hs;unfold World.shape? at hsh
 split at hsh
 ·rename_i C t fr h
  exact⟨b,off,C,t,fr,rfl,h⟩
 ·cases hsh
section
variable {H : Type} {enc : TypeId × Value -> H}
theorem A3c {a:Assume}{C:Checked}{os:Os}{f:FuncId}{fn:Func}{s:ChangeSpec}{conds:List PathCond}{apart fresh handsOn again:Bool}
 (own:ownKnob C.prog.godebug=none) (started:os.Started) (hfn:C.prog.funcs[f]?=some fn)
 (witness:∃(w:World) (tape:Tape) (i:Input),w.os=os /\(w.forCall tape i).Shaped C.prog/\i.vars=[]/\Input.okWide C.prog (w.forCall tape i) .any w.heap.size f i /\
  s.pre6 enc C.prog fn conds apart (w.forCall tape i).memory i.args/\a.holds C.prog (lone (Frame.enter C.prog f i.args .normal) [] (w.forCall tape i)))
 (runs:∀(W:World) (base:Nat) (args:Array Value) (ds gs:List (DataW H)) (before:List MemPlace),W.ShapedOpen C.prog ->
  (∀(j:Nat) t v,fn.params[j]?=some t->args[j]?=some v->Value.okWide C.prog W .any base t v) ->
  DataW.Whole enc C.prog fn.params.toList s.vars apart W args.toList ds gs before ->
  ∃M last o w' t',runNT C.prog (M+1) (solo (G (Frame.enter C.prog f args .normal) []) W) #[]=(.ended o w',t')/\runN C.prog M (solo (G (Frame.enter C.prog f args .normal) []) W)=.next last /\
   step C.prog last=.ended o w'/\Conc.Good C.prog (fun v W'=>s.post enc C.prog fn apart fresh handsOn again W args v W') last o w' t') :
 ReturnsInLeavingWide a C os f .any (s.pre6 enc C.prog fn conds apart) (s.post enc C.prog fn apart fresh handsOn again):=by
 refine returnsInLeavingWide_of_good own started witness ?_
 intro w tape i _ hsh _ hok hpre _;obtain⟨_,_,_,fn',hfn',_,_,_,_,hval⟩:=hok;obtain rfl:fn'=fn:=Ajo (hfn'.symm.trans hfn);obtain⟨⟨ds,gs,before,hw,_⟩,_⟩:=hpre;have hw':=DataW.Whole.of_heap (w':=w.forCall tape i) (by rfl) hw
 obtain⟨M,last,o,w',t',h1,h2,h3,h4⟩:=runs (w.forCall tape i) w.heap.size i.args ds gs before hsh hval hw'
 exact⟨M,last,o,w',t',h1,h2,h3,h4.mono fun v hp=>ChangeSpec.post_blind hp⟩
end
theorem Ae6:∀n l,mvP Vp.prog 4 n l :=
 Aci (by kernel_rfl) (by kernel_rfl) (fun d off=>by unfold byteOfCell;rw[Vp.Di Tryz.underlying4]) (fun d off=>by unfold cellOfByte;rw[Vp.Di Tryz.underlying4])
theorem Ahq:ownKnob Tryz.prog.godebug=none:=by kernel_rfl
theorem A6p:Vp.prog.globals=Tryz.prog.globals:=congrArg Tables.globals Vp.Oa
theorem Age:laidOutB Tryz.prog=true:=by kernel_rfl
end
section
open Go.ChangeShapes Go.WideShapes Go.ChangeAt Go.RowKit Go.Conc Ok
theorem U3 (P:Program):(begin P (fun _ _=>0) default).world.heap[P.globals.size]?=some (.cells ((Array.range P.types.size).map fun t=>.int .u64 (Int.ofNat t)) 0):=by
 unfold begin;dsimp only
 have key:∀(A:Array Obj) (x a b c d:Obj),A.size=P.globals.size ->(((((A.push x).push a).push b).push c).push d)[P.globals.size]?=some x:=by
  intro A x a b c d h;rw[<-h];rw[Aie,Aid (by simp;omega),Aie,Aid (by simp;omega),Aie,Aid (by simp;omega),Aie,Aid (by simp),Aie,Aij rfl]
 exact key _ _ _ _ _ _ (by simp)
theorem U4 {P:Program}{W:World}(h:W.ShapedOpen P):W.heap[P.globals.size]?=some (.cells ((Array.range P.types.size).map fun t=>.int .u64 (Int.ofNat t)) 0):=by
 have hb:P.globals.size <(begin P (fun _ _=>0) default).world.heap.size:=by
  unfold begin;simp
  omega
 obtain⟨o,o0,h1,h2,h3⟩:=h.2 P.globals.size (Ai3 _) hb;rw[U3]at h2;injection h2 with h2
 rw[Nat.sub_self,Aid (by decide)]at h3
 rw[h1,h3,<-h2]
theorem Xy {n i:Nat}{v:Value}(h:((Array.range n).map fun t=>(.int .u64 (Int.ofNat t):Value))[i]?=some v):∃k m,v=.int k m:=by
 rw[Aj4]at h;obtain⟨t,-,rfl⟩:=Aif.1 h
 exact⟨_,_,rfl⟩
theorem A76 {w:World}(h:w.ShapedOpen Tryz.prog):A4m 1 w:=by
 intro b C t fr _ hb hw n l;have hn:Vp.prog.globals.size=1:=by kernel_rfl
 have hnW:Tryz.prog.globals.size=1:=by kernel_rfl
 obtain rfl:b=0:=by omega
 obtain⟨cs,h1,-,-⟩:=h.1 0 #[.bool false] 4 (by omega) (by kernel_rfl)
 rw[h1]at hw;injection hw with hw
 injection hw with _ hw
 subst hw
 exact Ae6 n l
theorem Mk {cl:List Nat}(R:Of cl [1] 3)(hV:A2j)(hlaw:∀(w:World) (a:Option Addr) (c:Nat) (bs:List UInt8),bs.length<=maxLen->bs.length<=c->Sl w a (bs.map Cz)->Calls Vp.prog 3 #[.slice a bs.length c] w fun e _=>e=.returned (.bool true))
 (os:Os) (started:os.Started) (H:Type) (enc:TypeId×Value->H) :
 ReturnsInLeavingWide {} Tryz.checked os 3 .any (Rows.fnPlanTilesSpec.pre6 enc Tryz.prog Tryz.f3 Rows.fnPlanTilesRow.domain false) (Rows.fnPlanTilesSpec.post enc Tryz.prog Tryz.f3 false true false false):=by
 refine A3c (C:=Tryz.checked) Ahq started (by kernel_rfl)
  (ChangeSpec.witness6 (enc:=enc) (C:=Tryz.checked) false ⟨#[],#[.slice none 0 0],[]⟩ 8 (by kernel_rfl) (by kernel_rfl) (by kernel_rfl) (by kernel_rfl)) ?_
 intro W base args ds gs before hsh hval0 hW;have hval:∀(j:Nat) t v,Tryz.f3.params[j]?=some t->args[j]?=some v->Value.okWide Tryz.prog W .any base t v:=hval0;have hW':=hW;obtain⟨p,q,hA0,hV0,rfl,_,_⟩:=hW;have hA:DataW.TrodAll enc Tryz.prog W 0 (fun _=>true) true Tryz.f3.params.toList args.toList ds p:=hA0
 rw[Tryz.params3]at hA hval;obtain⟨v0,vs0,d0,ds0,p0,q0,hargs,rfl,rfl,h0,r0⟩:=trodAll_cons hA;obtain⟨rfl,rfl,rfl⟩:=trodAll_nil r0;obtain rfl:args=#[v0]:=by cases args;simp_all
 obtain⟨rfl,rfl⟩:=trodVars_none hV0;have hok:=hval 0 22 v0 rfl rfl;obtain⟨a0,c0,l0,rfl,n0,m0,s0⟩:=A3j Tryz.underlying22 Tryz.underlying5 (by kernel_rfl) hok h0
 clear hA0 hval0;have hgb:W.heap[1]?=_:=U4 hsh;obtain⟨N,last,o,w',t',e1,e2,e3,e4⟩:=A03 R hV (W0:=W) (a:=a0) (c:=c0) (bs:=l0) (by rw[A6p];exact A2y hsh) (A76 hsh) hgb (fun i v h=>Xy h) s0 (A8o Tryz.underlying22 hok) fun w _ hs=>hlaw w a0 c0 l0 n0 m0 hs
 exact⟨N,last,o,w',t',e1,e2,e3,e4.mono fun v ⟨hv,hb⟩=>by
  subst hv
  exact A9n Age (by kernel_rfl) (by kernel_rfl) rfl Tryz.underlying4 hW' rfl rfl rfl hb⟩
theorem R6 {cl:List Nat}(R:Of cl [1] 3)(hV:A2j)(hlaw:∀(w:World) (a:Option Addr) (c:Nat) (bs:List UInt8),bs.length<=maxLen->bs.length<=c->Sl w a (bs.map Cz)->Calls Vp.prog 3 #[.slice a bs.length c] w fun e _=>e=.returned (.bool true)):Rows.FnPlanTilesSaid :=
 OpenClaim.holds_of_wide_leaving 3 Tryz.f3 rfl rfl rfl rfl rfl rfl rfl ⟨rfl,rfl,rfl,rfl,rfl⟩ rfl rfl rfl rfl rfl (by kernel_rfl) Tryz.func3 (by kernel_rfl)
  (of_decide_eq_true (by kernel_rfl)) (by unfold Func.isWrapper;first |(rw[Aij (by decide +kernel)];kernel_rfl) |(rw[Aid (by decide +kernel)];exact⟨rfl,rfl⟩))
  (fun os started H enc _=>Mk R hV hlaw os started H enc)
end
end Go.Proofs.YtlfleicchbgcmaaGreat
