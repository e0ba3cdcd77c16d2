import Derived.Test.YtjaehldnlamgkaaGreatDoorXe27
import Derived.Test.YtjaehldnlamgkaaGreatDoorXe0
import Derived.Test.YtjaehldnlamgkaaGreatDoorXeK
set_option linter.all false
set_option maxHeartbeats 16000000
set_option maxRecDepth 100000
namespace Go.Proofs.YtjaehldnlamgkaaGreatDoor
section
open Go.RowKit
theorem H9 {P:Program}{o:Oper}{a:Act}{w:World}{K:Act->World->Prop}{Q:Exit->Act->World->Prop}(h:∀K':Act->World->Prop,(∀a' w',K a' w'->K' a' w')->o.wp P a w K' Q):o.wp P a w K Q:=h K (fun _ _ h=>h)
theorem A6z {ops:Array Oper}(h:(List.range ops.size).all (fun i=>((ops[i]?).map (fun o=>o.after.all fun e=>decide (e.on<i))).getD true)=true):∀(i:Nat) (o:Oper),ops[i]?=some o->∀e∈o.after,e.on<i:=by
 intro i o ho e he;have hi:=(Alx.1 ho).1;have h1:=Aoa.1 h i (Apj.2 hi);rw[ho]at h1;simp only[Ao6,Aqn]at h1;have h2:=Amr.1 h1 e he
 simpa using h2
def z4:Array Value:=#[.int .i64 0,.int .i64 0,.int .i64 0,.int .i64 0]
def up1 (D:Nat->Bool)(i:Nat):Nat->Bool:=fun j=>if j=i then true else D j
theorem Iz {D:Nat->Bool}{i j:Nat}(h:j≠i):up1 D i j=D j:=Amd h
theorem A2z {D:Nat->Bool}{i:Nat}:up1 D i i=true:=Amo rfl
structure Jk (w:World)(CA CB:Array Value)(D:Nat->Bool)(u:Nat->Value)(W:World):Prop where
 X:A7 w w.heap.size CA 93 W
 Y:A7 w (w.heap.size+1) CB 93 W
 Z:A7 w (w.heap.size+1+1) z4 93 W
 f0:D 0=true->u 0=.agg CA
 f1:D 1=true->u 1=.agg CA
 f2:D 2=true->u 2=.agg CB
 f3:D 3=true->u 3=.agg CB
 f4:D 4=true->∃sb,u 4=.pointer (some ⟨sb,0,none⟩)/\w.heap.size+1+1<sb/\A7 w sb (if D 6=true then CA else z4) 204 W
 f5:D 5=true->∃tb,u 5=.pointer (some ⟨tb,0,none⟩)/\w.heap.size+1+1<tb/\A7 w tb (if D 7=true then CB else z4) 204 W
 ne:D 4=true->D 5=true->u 4≠u 5
 s6:D 6=true->D 4=true
 s7:D 7=true->D 5=true
section
variable {w : World} {CA CB : Array Value} {D : Nat -> Bool} {u : Nat -> Value} {W W' : World}
theorem Jk.val (h:Jk w CA CB D u W){i:Nat}(hi:i<4){v:Value}(k:Below W.heap.size W W')(hv:v=if i<2 then .agg CA else .agg CB):Jk w CA CB (up1 D i) (fun j=>if j=i then v else u j) W':=by
 have e:∀j,4<=j->up1 D i j=D j:=fun j hj=>Iz (by omega)
 have eu:∀j,4<=j ->(if j=i then v else u j)=u j:=fun j hj=>Amd (by omega)
 refine⟨h.X.step k,h.Y.step k,h.Z.step k,fun g=>?_,fun g=>?_,fun g=>?_,fun g=>?_,fun g=>?_,fun g=>?_,fun g g'=>?_,fun g=>(e 4 (by omega)).trans (h.s6 ((e 6 (by omega)).symm.trans g)),fun g=>(e 5 (by omega)).trans (h.s7 ((e 7 (by omega)).symm.trans g))⟩
 ·by_cases x:0=i
  ·subst x;simpa using hv
  ·show(if 0=i then v else u 0)=_
   rw[Amd x];exact h.f0 ((Iz x).symm.trans g)
 ·by_cases x:1=i
  ·subst x;simpa using hv
  ·show(if 1=i then v else u 1)=_
   rw[Amd x];exact h.f1 ((Iz x).symm.trans g)
 ·by_cases x:2=i
  ·subst x;simpa using hv
  ·show(if 2=i then v else u 2)=_
   rw[Amd x];exact h.f2 ((Iz x).symm.trans g)
 ·by_cases x:3=i
  ·subst x;simpa using hv
  ·show(if 3=i then v else u 3)=_
   rw[Amd x];exact h.f3 ((Iz x).symm.trans g)
 ·rw[e 4 (by omega)]at g
  show ∃sb,(if 4=i then v else u 4)=_/\_
  rw[e 6 (by omega),eu 4 (by omega)]
  obtain⟨sb,h1,h2,h3⟩:=h.f4 g
  exact⟨sb,h1,h2,h3.step k⟩
 ·rw[e 5 (by omega)]at g
  show ∃sb,(if 5=i then v else u 5)=_/\_
  rw[e 7 (by omega),eu 5 (by omega)]
  obtain⟨sb,h1,h2,h3⟩:=h.f5 g
  exact⟨sb,h1,h2,h3.step k⟩
 ·rw[e 4 (by omega)]at g
  rw[e 5 (by omega)]at g'
  show(if 4=i then v else u 4) ≠(if 5=i then v else u 5)
  rw[eu 4 (by omega),eu 5 (by omega)]
  exact h.ne g g'
theorem Jk.Al8 (h:Jk w CA CB D u W)(h4:D 4=false):Jk w CA CB (up1 D 4) (fun j=>if j=4 then .pointer (some ⟨W.heap.size,0,none⟩)else u j) (W.alloc (.cells z4 204)):=by
 have k:Below W.heap.size W (W.alloc (.cells z4 204)):=(Amc _ _).alloc (Am0 _) _
 have h6:D 6=false:=by
  cases x:D 6
  ·rfl
  ·rw[h.s6 x]at h4;cases h4
 refine⟨h.X.step k,h.Y.step k,h.Z.step k,fun g=>h.f0 g,fun g=>h.f1 g,fun g=>h.f2 g,fun g=>h.f3 g,fun _=>⟨W.heap.size,rfl,h.Z.lt,?_⟩,fun g=>?_,fun _ g' e=>?_,fun _=>rfl,fun g=>h.s7 g⟩
 ·rw[show up1 D 4 6=D 6 from Iz (by omega),h6,Amd (by simp)]
  exact(A7.new W z4 204).up h.Z.old
 ·obtain⟨sb,h1,h2,h3⟩:=h.f5 g
  exact⟨sb,h1,h2,h3.step k⟩
 ·obtain⟨sb,h1,h2,h3⟩:=h.f5 g';have e:Value.pointer (some ⟨W.heap.size,0,none⟩)=u 5:=e;rw[h1]at e;injection e with e
  injection e with e
  injection e with e
  exact Aod _ (e▸h3.lt)
theorem Jk.Al9 (h:Jk w CA CB D u W)(h5:D 5=false):Jk w CA CB (up1 D 5) (fun j=>if j=5 then .pointer (some ⟨W.heap.size,0,none⟩)else u j) (W.alloc (.cells z4 204)):=by
 have k:Below W.heap.size W (W.alloc (.cells z4 204)):=(Amc _ _).alloc (Am0 _) _
 have h7:D 7=false:=by
  cases x:D 7
  ·rfl
  ·rw[h.s7 x]at h5;cases h5
 refine⟨h.X.step k,h.Y.step k,h.Z.step k,fun g=>h.f0 g,fun g=>h.f1 g,fun g=>h.f2 g,fun g=>h.f3 g,fun g=>?_,fun _=>⟨W.heap.size,rfl,h.Z.lt,?_⟩,fun g' _ e=>?_,fun g=>h.s6 g,fun _=>rfl⟩
 ·obtain⟨sb,h1,h2,h3⟩:=h.f4 g
  exact⟨sb,h1,h2,h3.step k⟩
 ·rw[show up1 D 5 7=D 7 from Iz (by omega),h7,Amd (by simp)]
  exact(A7.new W z4 204).up h.Z.old
 ·obtain⟨sb,h1,h2,h3⟩:=h.f4 g';have e:u 4=Value.pointer (some ⟨W.heap.size,0,none⟩):=e;rw[h1]at e;injection e with e
  injection e with e
  injection e with e
  exact Aod _ (e▸h3.lt)
end
theorem A7.A0l {w0 W:World}{b:Nat}{v0 v1 v2 v3:Value}{T:TypeId}(h:A7 w0 b #[v0,v1,v2,v3] T W)(hb:w0.heap.size<=b)(u0 u1 u2 u3:Value) :
 A7 w0 b #[u0,u1,u2,u3] T ((((W.setCell ⟨b,0,none⟩ u0).setCell ⟨b,1,none⟩ u1).setCell ⟨b,2,none⟩ u2).setCell ⟨b,3,none⟩ u3) :=
 (((h.set hb 0 u0).set hb 1 u1).set hb 2 u2).set hb 3 u3
section
variable {w : World} {a b c d : Value} {CA CB : Array Value} {D : Nat -> Bool} {u : Nat -> Value} {W W' : World}
theorem Jk.st6 (h:Jk w #[a,b,c,d] CB D u W){sb:Nat}(e4:u 4=.pointer (some ⟨sb,0,none⟩))(h4:D 4=true):Jk w #[a,b,c,d] CB (up1 D 6) u ((((W.setCell ⟨sb,0,none⟩ a).setCell ⟨sb,1,none⟩ b).setCell ⟨sb,2,none⟩ c).setCell ⟨sb,3,none⟩ d):=by
 obtain⟨sb',e,hl,S⟩:=h.f4 h4;rw[e4]at e;injection e with e;injection e with e;injection e with e
 subst e;have hs:w.heap.size<=sb:=by omega
 refine⟨h.X.Fb hs (by omega) _ _ _ _,h.Y.Fb hs (by omega) _ _ _ _,h.Z.Fb hs (by omega) _ _ _ _,h.f0,h.f1,h.f2,h.f3,fun _=>⟨sb,e4,hl,?_⟩,fun g=>?_,h.ne,fun _=>h4,h.s7⟩
 ·rw[A2z,Amo rfl]
  cases hd:D 6<;>rw[hd]at S
  ·rw[Amd (by simp)]at S;exact S.A0l hs _ _ _ _
  ·rw[Amo rfl]at S;exact S.A0l hs _ _ _ _
 ·obtain⟨tb,e5,hl5,T⟩:=h.f5 g
  refine⟨tb,e5,hl5,?_⟩
  rw[show up1 D 6 7=D 7 from Iz (by omega)]
  exact T.Fb hs (fun x=>h.ne h4 g (by rw[e4,e5,x])) _ _ _ _
theorem Jk.st7 (h:Jk w CA #[a,b,c,d] D u W){sb:Nat}(e4:u 5=.pointer (some ⟨sb,0,none⟩))(h4:D 5=true):Jk w CA #[a,b,c,d] (up1 D 7) u ((((W.setCell ⟨sb,0,none⟩ a).setCell ⟨sb,1,none⟩ b).setCell ⟨sb,2,none⟩ c).setCell ⟨sb,3,none⟩ d):=by
 obtain⟨sb',e,hl,S⟩:=h.f5 h4;rw[e4]at e;injection e with e;injection e with e;injection e with e
 subst e;have hs:w.heap.size<=sb:=by omega
 refine⟨h.X.Fb hs (by omega) _ _ _ _,h.Y.Fb hs (by omega) _ _ _ _,h.Z.Fb hs (by omega) _ _ _ _,h.f0,h.f1,h.f2,h.f3,fun g=>?_,fun _=>⟨sb,e4,hl,?_⟩,h.ne,h.s6,fun _=>h4⟩
 ·obtain⟨tb,e5,hl5,T⟩:=h.f4 g
  refine⟨tb,e5,hl5,?_⟩
  rw[show up1 D 7 6=D 6 from Iz (by omega)]
  exact T.Fb hs (fun x=>h.ne g h4 (by rw[e4,e5,x])) _ _ _ _
 ·rw[A2z,Amo rfl]
  cases hd:D 7<;>rw[hd]at S
  ·rw[Amd (by simp)]at S;exact S.A0l hs _ _ _ _
  ·rw[Amo rfl]at S;exact S.A0l hs _ _ _ _
end
theorem A42 (a b c d a' b' c' d':Int)(hv:Ap a b c d=true)(hv2:Ap a' b' c' d'=true)(w:World) :
 Calls Vp.prog 196 #[.agg #[.int .i64 a,.int .i64 b,.int .i64 c,.int .i64 d],.agg #[.int .i64 a',.int .i64 b',.int .i64 c',.int .i64 d']] w fun e w'=>e=.returned (En ⟨a+a',b+b',c+c',d+d'⟩)/\Below w.heap.size w w':=by
 obtain⟨X,Y,Z⟩:=U7 w #[.int .i64 a,.int .i64 b,.int .i64 c,.int .i64 d] 93 #[.int .i64 a',.int .i64 b',.int .i64 c',.int .i64 d'] 93 #[.int .i64 0,.int .i64 0,.int .i64 0,.int .i64 0] 93;obtain⟨b1,b2,b3,b4,b5,b6⟩:=Bx.bd (x:=⟨a,b,c,d⟩) hv;obtain⟨g1,g2,g3,g4,g5,g6⟩:=Bx.bd (x:=⟨a',b',c',d'⟩) hv2;dsimp only at b1 b2 b3 b4 b5 b6 g1 g2 g3 g4 g5 g6;have HV:=Aly (Dx a b c d);have HV2:=Aly (Dx a' b' c' d');rw[hv]at HV;rw[hv2]at HV2;have HSA:=Aly (Eh a b c d);have HSB:=Aly (Eh a' b' c' d');have HP1:=Aly (Gf a b a' b' (by omega) (by omega) (by omega) (by omega) (by omega) (by omega) (by omega) (by omega))
 have HP2:=Aly (Gf c d c' d' (by omega) (by omega) (by omega) (by omega) (by omega) (by omega) (by omega) (by omega))
 generalize a+a'=S1 at *;generalize b+b'=S2 at *;generalize c+c'=S3 at *;generalize d+d'=S4 at *;have HD:=Aly (Tu S1 S2 S3 S4);obtain⟨o1,o2,o3,o4,o5,hx⟩:=Ig ⟨S1,S2,S3,S4⟩;rw[hx]at HD;rw[hx];clear hx hv hv2 b1 b2 b3 b4 b5 b6 g1 g2 g3 g4 g5 g6;have x0:=X.cell 0 _ rfl;have x1:=X.cell 1 _ rfl;have x2:=X.cell 2 _ rfl;have x3:=X.cell 3 _ rfl
 go_enter Vp.func196,Tryz.ntmps196
 go_wp2_with fail
 refine(HV.out _).mono ?_
 rintro e w1 ⟨rfl,hb⟩;clear x0 x1 x2 x3;replace X:=X.step hb;replace Y:=Y.step hb;replace Z:=Z.step hb;clear hb;have y0:=Y.cell 0 _ rfl;have y1:=Y.cell 1 _ rfl;have y2:=Y.cell 2 _ rfl;have y3:=Y.cell 3 _ rfl
 go_wp2_with fail
 refine(HV2.out _).mono ?_
 rintro e w2 ⟨rfl,hb⟩;clear y0 y1 y2 y3;replace X:=X.step hb;replace Y:=Y.step hb;replace Z:=Z.step hb;clear hb
 go_upto_region 3 with fail
 go_cut [6,7]from 17 to 20 (fun p q wx=>∃sb tb:Nat,p=.pointer (some ⟨sb,0,none⟩)/\q=.pointer (some ⟨tb,0,none⟩)/\Hid (A7 w sb #[.int .i64 a,.int .i64 b,.int .i64 c,.int .i64 d] 204 wx/\A7 w tb #[.int .i64 a',.int .i64 b',.int .i64 c',.int .i64 d'] 204 wx/\A7 w (w.heap.size+1+1) #[.int .i64 0,.int .i64 0,.int .i64 0,.int .i64 0] 93 wx/\w.heap.size+1+1<sb/\w.heap.size+1+1<tb))
 case first =>
  have h0:Jk w #[.int .i64 a,.int .i64 b,.int .i64 c,.int .i64 d] #[.int .i64 a',.int .i64 b',.int .i64 c',.int .i64 d'] (fun _=>false) (fun _=>undef) { w2 with drawn:=w2.drawn+1 } :=
   have k:Below w2.heap.size w2 { w2 with drawn:=w2.drawn+1 }:=(Bp.refl w2).drew.below _
   ⟨X.step k,Y.step k,Z.step k,fun h=>by(cases h),fun h=>by(cases h),fun h=>by(cases h),fun h=>by(cases h),fun h=>by(cases h),fun h=>by(cases h),fun h=>by(cases h),fun h=>by(cases h),fun h=>by(cases h)⟩
  clear X Y Z
  refine Vg (by kernel_rfl) (fun D a0 W=>∃u:Nat->Value,a0=⟨((Value.agg #[.int .i64 a,.int .i64 b,.int .i64 c,.int .i64 d]) ::(Value.agg #[.int .i64 a',.int .i64 b',.int .i64 c',.int .i64 d']) ::(Value.pointer (some ⟨w.heap.size,0,none⟩)) ::(Value.pointer (some ⟨w.heap.size+1,0,none⟩)) ::(Value.pointer (some ⟨w.heap.size+1+1,0,none⟩)) ::(Value.bool false) ::(u 4) ::(u 5) ::(Value.agg #[.int .i64 a,.int .i64 b,.int .i64 c,.int .i64 d]) ::(Value.bool true) ::(Value.bool false) ::(Value.bool false) ::(Value.agg #[.int .i64 a',.int .i64 b',.int .i64 c',.int .i64 d']) ::(Value.bool true) ::(Value.bool false) ::(Value.bool false) :: undef ::(u 0) ::(u 1) ::(u 2) ::(u 3) :: undef :: undef :: undef :: undef :: undef :: undef :: undef :: undef :: undef :: undef :: undef :: undef :: undef :: undef :: []).toArray,[]⟩/\Jk w #[.int .i64 a,.int .i64 b,.int .i64 c,.int .i64 d] #[.int .i64 a',.int .i64 b',.int .i64 c',.int .i64 d'] D u W) (A6z (by kernel_rfl)) ⟨fun _=>undef,rfl,h0⟩ ?_ ?_
  ·rintro D a0 W ⟨u,rfl,I⟩ i o ho hD hdep;have hi:i<8:=(Alx.1 ho).1;have HI:=Aly I;have x0:=I.X.cell 0 _ rfl;have x1:=I.X.cell 1 _ rfl;have x2:=I.X.cell 2 _ rfl;have x3:=I.X.cell 3 _ rfl;have y0:=I.Y.cell 0 _ rfl;have y1:=I.Y.cell 1 _ rfl;have y2:=I.Y.cell 2 _ rfl;have y3:=I.Y.cell 3 _ rfl;clear I
   rcases(by omega:i=0\/i=1\/i=2\/i=3\/i=4\/i=5\/i=6\/i=7)with rfl|rfl|rfl|rfl|rfl|rfl|rfl|rfl
   ·simp only[Ao7,Anu,Anf]at ho;subst ho;rw[Amo (by rfl)]
    refine H9 fun K hKK=>?_
    clear hD hdep
    go_simp
    exact hKK _ _ ⟨fun j=>if j=0 then(.agg #[.int .i64 a,.int .i64 b,.int .i64 c,.int .i64 d])else u j,rfl,HI.out.val (by omega) (Amc _ _) rfl⟩
   ·simp only[Ao7,Anu,Anv,Anf]at ho;subst ho;have d0:D 0=true:=hdep ⟨0,.data⟩ (by simp) rfl
    have e0:=HI.out.f0 d0;rw[Amo (by rfl)]
    refine H9 fun K hKK=>?_
    clear hD hdep
    go_simp
    refine(HSA.out _).mono ?_
    rintro e w' ⟨rfl,hb⟩
    exact hKK _ _ ⟨fun j=>if j=1 then(.agg #[.int .i64 a,.int .i64 b,.int .i64 c,.int .i64 d])else u j,by simp only[e0];rfl,HI.out.val (by omega) hb rfl⟩
   ·simp only[Ao7,Anu,Anv,Anf]at ho;subst ho;rw[Amo (by rfl)]
    refine H9 fun K hKK=>?_
    clear hD hdep
    go_simp
    exact hKK _ _ ⟨fun j=>if j=2 then(.agg #[.int .i64 a',.int .i64 b',.int .i64 c',.int .i64 d'])else u j,rfl,HI.out.val (by omega) (Amc _ _) rfl⟩
   ·simp only[Ao7,Anu,Anv,Anf]at ho;subst ho;have d2:D 2=true:=hdep ⟨2,.data⟩ (by simp) rfl
    have e2:=HI.out.f2 d2;rw[Amo (by rfl)]
    refine H9 fun K hKK=>?_
    clear hD hdep
    go_simp
    refine(HSB.out _).mono ?_
    rintro e w' ⟨rfl,hb⟩
    exact hKK _ _ ⟨fun j=>if j=3 then(.agg #[.int .i64 a',.int .i64 b',.int .i64 c',.int .i64 d'])else u j,by simp only[e2];rfl,HI.out.val (by omega) hb rfl⟩
   ·simp only[Ao7,Anu,Anv,Anf]at ho;subst ho;rw[Amo (by rfl)]
    refine H9 fun K hKK=>?_
    have HK:=Aly hKK;clear hKK hdep;have HhD:=Aly hD;clear hD
    go_simp
    exact HK.out _ _ ⟨fun j=>if j=4 then .pointer (some ⟨W.heap.size,0,none⟩)else u j,rfl,HI.out.Al8 HhD.out⟩
   ·simp only[Ao7,Anu,Anv,Anf]at ho;subst ho;rw[Amo (by rfl)]
    refine H9 fun K hKK=>?_
    have HK:=Aly hKK;clear hKK hdep;have HhD:=Aly hD;clear hD
    go_simp
    exact HK.out _ _ ⟨fun j=>if j=5 then .pointer (some ⟨W.heap.size,0,none⟩)else u j,rfl,HI.out.Al9 HhD.out⟩
   ·simp only[Ao7,Anu,Anv,Anf]at ho;subst ho;rw[Amo (by rfl)]
    have d4:D 4=true:=hdep ⟨4,.data⟩ (by simp) rfl
    have d1:D 1=true:=hdep ⟨1,.data⟩ (by simp) rfl
    have e1:=HI.out.f1 d1;obtain⟨sb,e4,hl,S⟩:=HI.out.f4 d4;rw[hD,Amd (by simp)]at S
    have c0:=S.cell 0 _ rfl;have c1:=S.cell 1 _ rfl;have c2:=S.cell 2 _ rfl;have c3:=S.cell 3 _ rfl;have f0:=S.frozen 0;have f1:=S.frozen 1;have f2:=S.frozen 2;have f3:=S.frozen 3;clear S
    refine H9 fun K hKK=>?_
    have HK:=Aly hKK;clear hKK hD hdep
    go_simp
    refine HK.out _ _ ⟨u,?_,HI.out.st6 e4 d4⟩
    simp only[e1,e4]
   ·simp only[Ao7,Anu,Anv,Anf]at ho;subst ho;rw[Amo (by rfl)]
    have d4:D 5=true:=hdep ⟨5,.data⟩ (by simp) rfl
    have d1:D 3=true:=hdep ⟨3,.data⟩ (by simp) rfl
    have e1:=HI.out.f3 d1;obtain⟨sb,e4,hl,S⟩:=HI.out.f5 d4;rw[hD,Amd (by simp)]at S
    have c0:=S.cell 0 _ rfl;have c1:=S.cell 1 _ rfl;have c2:=S.cell 2 _ rfl;have c3:=S.cell 3 _ rfl;have f0:=S.frozen 0;have f1:=S.frozen 1;have f2:=S.frozen 2;have f3:=S.frozen 3;clear S
    refine H9 fun K hKK=>?_
    have HK:=Aly hKK;clear hKK hD hdep
    go_simp
    refine HK.out _ _ ⟨u,?_,HI.out.st7 e4 d4⟩
    simp only[e1,e4]
  ·rintro D a0 W ⟨u,rfl,I⟩ hall;obtain⟨sb,e4,h4,S⟩:=I.f4 (hall 4 (by decide))
   obtain⟨tb,e5,h5,T⟩:=I.f5 (hall 5 (by decide))
   rw[hall 6 (by decide),Amo rfl]at S
   rw[hall 7 (by decide),Amo rfl]at T
   have HF:=Aly (And.intro S (And.intro T (And.intro I.Z (And.intro h4 h5))));clear S T I hall
   go_wp2_with fail
   go_meet
   exact⟨sb,tb,e4,e5,HF.out⟩
 case rest =>
  obtain⟨sb,tb,rfl,rfl,HCC⟩:=hcut;clear X Y Z HV HV2 HSA HSB;obtain⟨S,T,Z,hsb,htb⟩:=HCC.out;clear HCC
  go_upto_region 4 with fail
  have HSk:Hid (∀W',Below wc.drew.heap.size wc.drew W'->A7 w sb #[.int .i64 a,.int .i64 b,.int .i64 c,.int .i64 d] 204 W'):=fun W' h=>(S.step ((Bp.refl _).drew.below _)).step h
  have HTk:Hid (∀W',Below wc.drew.heap.size wc.drew W'->A7 w tb #[.int .i64 a',.int .i64 b',.int .i64 c',.int .i64 d'] 204 W'):=fun W' h=>(T.step ((Bp.refl _).drew.below _)).step h
  have HZk:Hid (∀W',Below wc.drew.heap.size wc.drew W'->A7 w (w.heap.size+1+1) #[.int .i64 0,.int .i64 0,.int .i64 0,.int .i64 0] 93 W'):=fun W' h=>(Z.step ((Bp.refl _).drew.below _)).step h
  have HSs:=Aly (fun W' h u0 u1 u2 u3=>(HSk.out W' h).Fb (b':=w.heap.size+1+1) (by omega) (by omega) u0 u1 u2 u3)
  have HTs:=Aly (fun W' h u0 u1 u2 u3=>(HTk.out W' h).Fb (b':=w.heap.size+1+1) (by omega) (by omega) u0 u1 u2 u3)
  have hbk:=Amc wc.drew.heap.size wc.drew;clear S T Z
  go_region_held3 (fun w'=>w'.cell? ⟨sb,0,none⟩=some (.int .i64 a)/\w'.cell? ⟨sb,1,none⟩=some (.int .i64 b)/\w'.cell? ⟨sb,2,none⟩=some (.int .i64 c)/\w'.cell? ⟨sb,3,none⟩=some (.int .i64 d)/\w'.cell? ⟨tb,0,none⟩=some (.int .i64 a')/\w'.cell? ⟨tb,1,none⟩=some (.int .i64 b')/\w'.cell? ⟨tb,2,none⟩=some (.int .i64 c')/\w'.cell? ⟨tb,3,none⟩=some (.int .i64 d')) (((first|dsimp only|skip);first |(with_reducible exact⟨(HSk.out _ hbk).cell 0 _ rfl,(HSk.out _ hbk).cell 1 _ rfl,(HSk.out _ hbk).cell 2 _ rfl,(HSk.out _ hbk).cell 3 _ rfl,(HTk.out _ hbk).cell 0 _ rfl,(HTk.out _ hbk).cell 1 _ rfl,(HTk.out _ hbk).cell 2 _ rfl,(HTk.out _ hbk).cell 3 _ rfl⟩) |(with_reducible exact⟨(HSs.out _ hbk _ _ _ _).cell 0 _ rfl,(HSs.out _ hbk _ _ _ _).cell 1 _ rfl,(HSs.out _ hbk _ _ _ _).cell 2 _ rfl,(HSs.out _ hbk _ _ _ _).cell 3 _ rfl,(HTs.out _ hbk _ _ _ _).cell 0 _ rfl,(HTs.out _ hbk _ _ _ _).cell 1 _ rfl,(HTs.out _ hbk _ _ _ _).cell 2 _ rfl,(HTs.out _ hbk _ _ _ _).cell 3 _ rfl⟩))) (first
   |(go_at_call 164;(first |(with_reducible refine(HP1.out _).mono ?_) |(with_reducible refine(HP2.out _).mono ?_));rintro e w' ⟨rfl,hb⟩;replace hbk:=hbk.trans (hb.mono hbk.size);clear hb)
   |(go_at_call 177;(with_reducible refine(HD.out _).mono ?_);rintro e w' ⟨rfl,hb⟩;replace hbk:=hbk.trans (hb.mono hbk.size);clear hb;have z0:=(HZk.out _ hbk).cell 0 _ rfl;have z1:=(HZk.out _ hbk).cell 1 _ rfl;have z2:=(HZk.out _ hbk).cell 2 _ rfl;have z3:=(HZk.out _ hbk).cell 3 _ rfl;have g0:=(HZk.out _ hbk).frozen 0;have g1:=(HZk.out _ hbk).frozen 1;have g2:=(HZk.out _ hbk).frozen 2;have g3:=(HZk.out _ hbk).frozen 3))
  all_goals
   go_wp2
   exact Am5 (v:=.tuple #[.agg #[.int .i64 o1,.int .i64 o2,.int .i64 o3,.int .i64 o4],.bool o5]) (by simp[results,Tryz.f196,go_sem,z0,z1,z2,z3]) rfl ⟨rfl,A8p (HZk.out _ hbk).old (b:=w.heap.size+1+1) (by omega) _ _ _ _⟩
end
section
open Go.RowKit
attribute [local go_sem ↓] Go.wp_at_zero Go.wp_at_succ
theorem K1 (x d:Nat)(n N:Int)(hd:d<=11)(hx:Flo.Pt x d n)(hn:n.natAbs<=65536)(hN:N=n *(2^(24-d):Nat))(h2:¬N<=134217728)(w:World) :
 Calls Vp.prog 131 #[.float .f32 x] w fun e w'=>e=.returned (.tuple #[.int .i64 0,.int .i64 0,.bool false])/\w=w':=by
 obtain⟨y1,y,e1,e2,hv,e3⟩:=Flo.Nz hd hx hn;rw[<-hN]at hv e3
 have hNb:N.natAbs<=1099511627776:=by
  rw[hN,Amq,Ame];have h1:(2:Nat)^(24-d)<=2^24:=Amn (by omega) (by omega)
  exact Ap4 hn h1
 obtain⟨b1,b2,b3,b4⟩:=Flo.Qf hNb hv;rw[An0 (show -134217728<=N by omega)]at b1
 rw[Ana h2]at b2;have g1:=fun w=>Anz (P:=Vp.prog) w 87 57 .f32 .f64 _ _ (by kernel_rfl) (Vp.Bl Tryz.underlying57) e1
 have g2:=fun w=>Amz (P:=Vp.prog) w .mul 57 .f64 _ _ _ e2
 clear e1 e2 e3 hv hx hn hN hNb h2 hd b3 b4
 go_enter Vp.func131,Tryz.ntmps131
 go_wp2
 go_ret3
 exact⟨rfl,rfl⟩
def ofV (A B:Int):Value:=if A<=134217728/\B<=134217728 then .tuple #[.agg #[.int .i64 A,.int .i64 A,.int .i64 B,.int .i64 B],.bool true]else .tuple #[.agg #[.int .i64 0,.int .i64 0,.int .i64 0,.int .i64 0],.bool false]
theorem A74 (x y d:Nat)(a b A B:Int)(hd:d<=11)(hx:Flo.Pt x d a)(hy:Flo.Pt y d b)(ha:a.natAbs<=65536)(hb:b.natAbs<=65536)(hA:A=a *(2^(24-d):Nat))(hB:B=b *(2^(24-d):Nat))
 (h1:-134217728<=A) (h3:-134217728<=B) (w:World) :
 Calls Vp.prog 89 #[.complex .f32 x y] w fun e w'=>e=.returned (ofV A B)/\Below w.heap.size w w':=by
 by_cases h2:A<=134217728
 ·by_cases h4:B<=134217728
  ·unfold ofV;rw[Amo ⟨h2,h4⟩]
   exact A75 x y d a b A B hd hx hy ha hb hA hB h1 h2 h3 h4 w
  ·have HV:Hid (ofV A B=.tuple #[.agg #[.int .i64 0,.int .i64 0,.int .i64 0,.int .i64 0],.bool false]):=by
    show _=_;unfold ofV;rw[Amd (fun h=>h4 h.2)]
   rw[HV.out];have X:=A7.new w #[.int .i64 0,.int .i64 0,.int .i64 0,.int .i64 0] 93;have HX:=Aly (fun w=>Ha x d a A hd hx ha hA h1 h2 w)
   have HY:=Aly (fun w=>K1 y d b B hd hy hb hB h4 w)
   have f0:=X.frozen 0;have f1:=X.frozen 1;have f2:=X.frozen 2;have f3:=X.frozen 3;have c0:=X.cell 0 _ rfl;have c1:=X.cell 1 _ rfl;have c2:=X.cell 2 _ rfl;have c3:=X.cell 3 _ rfl;have HB:=Aly X.old;clear hx hy hA hB ha hb HV X
   go_enter Vp.func89,Tryz.ntmps89
   go_wp2_with fail
   refine(HX.out _).mono ?_
   rintro e w1 ⟨rfl,rfl⟩
   go_wp2_with fail
   refine(HY.out _).mono ?_
   rintro e w1 ⟨rfl,rfl⟩
   go_wp2
   exact Am5 (v:=.tuple #[.agg #[.int .i64 0,.int .i64 0,.int .i64 0,.int .i64 0],.bool false]) (by simp[results,Tryz.f89,go_sem]) rfl ⟨rfl,HB.out⟩
 ·have HV:Hid (ofV A B=.tuple #[.agg #[.int .i64 0,.int .i64 0,.int .i64 0,.int .i64 0],.bool false]):=by
   show _=_;unfold ofV;rw[Amd (fun h=>h2 h.1)]
  rw[HV.out];have X:=A7.new w #[.int .i64 0,.int .i64 0,.int .i64 0,.int .i64 0] 93;have HX:=Aly (fun w=>K1 x d a A hd hx ha hA h2 w)
  obtain⟨P,Q,t,HY⟩:∃(P Q:Int) (t:Bool),Hid (∀w,Calls Vp.prog 131 #[.float .f32 y] w fun e w'=>e=.returned (.tuple #[.int .i64 P,.int .i64 Q,.bool t])/\w=w'):=by
   by_cases h4:B<=134217728
   ·exact⟨B,B,true,fun w=>Ha y d b B hd hy hb hB h3 h4 w⟩
   ·exact⟨0,0,false,fun w=>K1 y d b B hd hy hb hB h4 w⟩
  have f0:=X.frozen 0;have f1:=X.frozen 1;have f2:=X.frozen 2;have f3:=X.frozen 3;have c0:=X.cell 0 _ rfl;have c1:=X.cell 1 _ rfl;have c2:=X.cell 2 _ rfl;have c3:=X.cell 3 _ rfl;have HB:=Aly X.old;clear hx hy hA hB ha hb HV X
  go_enter Vp.func89,Tryz.ntmps89
  go_wp2_with fail
  refine(HX.out _).mono ?_
  rintro e w1 ⟨rfl,rfl⟩
  go_wp2_with fail
  refine(HY.out _).mono ?_
  rintro e w1 ⟨rfl,rfl⟩
  go_wp2
  exact Am5 (v:=.tuple #[.agg #[.int .i64 0,.int .i64 0,.int .i64 0,.int .i64 0],.bool false]) (by simp[results,Tryz.f89,go_sem]) rfl ⟨rfl,HB.out⟩
theorem A1b (cx cy d x y:Nat)(i j P0 P1 P2 P3 A2 B2 S:Int)(v:Bool)(hsd:(16777216:Int) / 2^d=S)(hd:d<=11)(k1:wrap64 (P1+S)=A2)(k2:wrap64 (P3+S)=B2)
 (HP:Hid (∀w,Calls Vp.prog 50 #[.complex .f32 cx cy,.int .i64 d,.int .i64 i,.int .i64 j] w fun e w'=>e=.returned (.complex .f32 x y)/\w=w'))
 (HO:Hid (∀w,Calls Vp.prog 89 #[.complex .f32 x y] w fun e w'=>e=.returned (.tuple #[.agg #[.int .i64 P0,.int .i64 P1,.int .i64 P2,.int .i64 P3],.bool v])/\Below w.heap.size w w')) (w:World) :
 Calls Vp.prog 47 #[.complex .f32 cx cy,.int .i64 d,.int .i64 i,.int .i64 j] w fun e w'=>e=.returned (.tuple #[.agg #[.int .i64 P0,.int .i64 A2,.int .i64 P2,.int .i64 B2],.bool (v && Ap P0 A2 P2 B2)])/\Below w.heap.size w w':=by
 have R:=A7.new w #[.int .i64 0,.int .i64 0,.int .i64 0,.int .i64 0] 93
 go_enter Vp.func47,Tryz.ntmps47
 go_wp2_with fail
 refine(HP.out _).mono ?_
 rintro e w1 ⟨rfl,rfl⟩
 go_wp2_with fail
 refine(HO.out _).mono ?_
 rintro e w2 ⟨rfl,hb⟩;replace R:=R.step hb;clear hb HP HO;have X:=(A7.new w2 #[.int .i64 P0,.int .i64 P1,.int .i64 P2,.int .i64 P3] 93).up R.old;have hne:w2.heap.size≠w.heap.size:=by have:=R.lt;omega
 have hxb:w.heap.size<=w2.heap.size:=R.old.size;replace R:=R.alloc (.cells #[.int .i64 P0,.int .i64 P1,.int .i64 P2,.int .i64 P3] 93);have x1:=X.cell 1 _ rfl;have x3:=X.cell 3 _ rfl;have f1:=X.frozen 1;have f3:=X.frozen 3
 go_upto_region 5 with fail
 clear x1 x3 f1 f3 X;have X:=(A7.new w2 #[.int .i64 P0,.int .i64 A2,.int .i64 P2,.int .i64 B2] 93).up (w0:=w) (by have:=R.old;exact⟨this.os,this.tape,this.output,hxb,fun k hk=>by rw[<-this.block k hk];exact(Aow _ _ _ (by omega)).symm⟩)
 replace R:A7 w w.heap.size #[.int .i64 0,.int .i64 0,.int .i64 0,.int .i64 0] 93 (w2.alloc (.cells #[.int .i64 P0,.int .i64 A2,.int .i64 P2,.int .i64 B2] 93)):=by
  refine⟨?_,X.old⟩
  have:=R.blk;rw[Aow _ _ _ (by have:=R.lt;simp at this;omega)]at this
  rw[Aow _ _ _ (by have:=R.lt;simp at this;omega)]
  exact this
 clear hsd k1 k2;generalize w2.heap.size=xb at *;generalize w2.alloc (.cells #[.int .i64 P0,.int .i64 A2,.int .i64 P2,.int .i64 B2] 93)=W at *
 have HF:Hid (∀W,Below w.heap.size w W->∀u0 u1 u2 u3,Below w.heap.size w ((((W.setCell ⟨w.heap.size,0,none⟩ u0).setCell ⟨w.heap.size,1,none⟩ u1).setCell ⟨w.heap.size,2,none⟩ u2).setCell ⟨w.heap.size,3,none⟩ u3)):=fun W h u0 u1 u2 u3 =>
  (((h.setCell (p:=⟨w.heap.size,0,none⟩) (Am0 _) _).setCell (p:=⟨w.heap.size,1,none⟩) (Am0 _) _).setCell (p:=⟨w.heap.size,2,none⟩) (Am0 _) _).setCell (p:=⟨w.heap.size,3,none⟩) (Am0 _) _
 have x0:=X.cell 0 _ rfl;have x1:=X.cell 1 _ rfl;have x2:=X.cell 2 _ rfl;have x3:=X.cell 3 _ rfl;replace R:=R.step ((Bp.refl _).drew.below _);have HBV:=Aly (fun W=>Bm P0 A2 P2 B2 W)
 cases v with
 | true =>
   go_region_with (first
    |(go_at_call 90
      refine(HBV.out _).mono ?_
      rintro e w3 ⟨rfl,hb⟩;replace X:=X.step (((Bp.refl _).drew.below _).trans hb);replace R:=R.step hb;have x0:=X.cell 0 _ rfl;have x1:=X.cell 1 _ rfl;have x2:=X.cell 2 _ rfl;have x3:=X.cell 3 _ rfl;have c0:=R.cell 0 _ rfl;have c1:=R.cell 1 _ rfl;have c2:=R.cell 2 _ rfl;have c3:=R.cell 3 _ rfl;have f0:=R.frozen 0;have f1:=R.frozen 1;have f2:=R.frozen 2;have f3:=R.frozen 3;have HB:=Aly R.old))
   all_goals
    go_wp2
    exact Am5 (v:=.tuple #[.agg #[.int .i64 P0,.int .i64 A2,.int .i64 P2,.int .i64 B2],.bool (true && Ap P0 A2 P2 B2)]) (by simp[results,Tryz.f47,go_sem,c0,c1,c2,c3,Aq7]) rfl ⟨rfl,HF.out _ HB.out _ _ _ _⟩
 | false =>
   have c0:W.cell? ⟨w.heap.size,0,none⟩=some (.int .i64 0):=R.cell 0 _ rfl;have c1:W.cell? ⟨w.heap.size,1,none⟩=some (.int .i64 0):=R.cell 1 _ rfl;have c2:W.cell? ⟨w.heap.size,2,none⟩=some (.int .i64 0):=R.cell 2 _ rfl;have c3:W.cell? ⟨w.heap.size,3,none⟩=some (.int .i64 0):=R.cell 3 _ rfl;have f0:W.frozen? ⟨w.heap.size,0,none⟩=false:=R.frozen 0;have f1:W.frozen? ⟨w.heap.size,1,none⟩=false:=R.frozen 1;have f2:W.frozen? ⟨w.heap.size,2,none⟩=false:=R.frozen 2;have f3:W.frozen? ⟨w.heap.size,3,none⟩=false:=R.frozen 3;have HB:=Aly R.old
   go_region_with fail
   all_goals
    go_wp2
    exact Am5 (v:=.tuple #[.agg #[.int .i64 P0,.int .i64 A2,.int .i64 P2,.int .i64 B2],.bool false]) (by simp[results,Tryz.f47,go_sem,c0,c1,c2,c3]) rfl ⟨rfl,HF.out _ HB.out _ _ _ _⟩
end
section
open Go.RowKit
attribute [local go_sem ↓] Go.wp_at_zero Go.wp_at_succ
attribute [local go_sem] Av Am
def Ov {α:Type}(s:Nat)(f:Nat->Nat->α)(k l:Nat):List α:=rowsOf s f k ++(List.range l).map (f k)
theorem Abp {α:Type}(s:Nat)(f:Nat->Nat->α)(k:Nat):Ov s f k 0=rowsOf s f k:=by unfold Ov;simp
theorem Wu {α:Type}(s:Nat)(f:Nat->Nat->α)(k l:Nat):Ov s f k l++[f k l]=Ov s f k (l+1):=by unfold Ov;rw[List.range_succ,Aok,Ao4];rfl
theorem A1s {α:Type}(s:Nat)(f:Nat->Nat->α)(k:Nat):Ov s f k s=rowsOf s f (k+1):=by unfold Ov;rw[Fs]
structure Afp (cx cy d s:Nat)(A6:Int)(ok:Nat->Nat->Bool)(b0 b1 b2 b3:Nat->Nat->Int)(px py:Nat->Nat->Nat)(st:Nat->Nat->Int)(sm:Nat->Nat->Nat):Prop where
 box:∀i j:Nat,i<s->j<s->∀W,Calls Vp.prog 47 #[.complex .f32 cx cy,.int .i64 d,.int .i64 i,.int .i64 j] W fun e w'=>e=.returned (.tuple #[.agg #[.int .i64 (b0 i j),.int .i64 (b1 i j),.int .i64 (b2 i j),.int .i64 (b3 i j)],.bool (ok i j)])/\Below W.heap.size W w'
 state:∀i j:Nat,i<s->j<s->ok i j=true->∀W,Calls Vp.prog 48 #[.agg #[.int .i64 (b0 i j),.int .i64 (b1 i j),.int .i64 (b2 i j),.int .i64 (b3 i j)],.int .i64 A6] W fun e w'=>e=.returned (.tuple #[.int .i64 (st i j),.bool true])/\Below W.heap.size W w'
 Akj:∀i j:Nat,i<s->j<s->∀W,Calls Vp.prog 50 #[.complex .f32 cx cy,.int .i64 d,.int .i64 i,.int .i64 j] W fun e w'=>e=.returned (.complex .f32 (px i j) (py i j))/\W=w'
 It:∀i j:Nat,i<s->j<s->ok i j=true->∀W,Calls Vp.prog 49 #[.complex .f32 (px i j) (py i j),.int .i64 A6] W fun e w'=>e=.returned (.float .f32 (sm i j))/\Bp W w'
 Alp:∀i j:Nat,sm i j<4294967296
 Alq:∀i j:Nat,-1<=st i j/\st i j<=1
def Ad9:Value:=.tuple #[.agg #[.complex .f32 0 0,.int .i64 0,.int .i64 0,.slice none 0 0,.slice none 0 0],.bool false]
end
section
open Go.RowKit
attribute [local go_sem ↓] Go.wp_at_zero Go.wp_at_succ
attribute [local go_sem] Av Am
theorem TM.Aia {w W:World}{rb:Nat}(cx cy:Nat)(deep size:Int){cap:Nat}{C D:Array Value}(hm:cap<=maxLen)(hC:C.size=cap)(hD:D.size=cap)(R:A7 w rb (C8 0 0 0 0 (.slice none 0 0) (.slice none 0 0)) 43 W)(hr:w.heap.size<=rb) :
 TM w rb (W.heap.size+1+1) cx cy deep size 0 0 [] [] (.slice (some ⟨W.heap.size,0,none⟩) 0 cap) (.slice (some ⟨W.heap.size+1,0,none⟩) 0 cap) (((W.alloc (.cells C 87)).alloc (.cells D 3)).alloc (.cells (C8 cx cy deep size (.slice (some ⟨W.heap.size,0,none⟩) 0 cap) (.slice (some ⟨W.heap.size+1,0,none⟩) 0 cap)) 43)):=by
 have hs:=R.old.size;have hlt:=R.lt;have new:∀(W:World) (C:Array Value) (t:TypeId),(W.alloc (.cells C t)).heap[W.heap.size]?=some (.cells C t (0,0)):=fun W C t=>Aox W _
 have far:∀(W:World) (C:Array Value) (t:TypeId) (k:Nat) (o:Obj),W.heap[k]?=some o ->(W.alloc (.cells C t)).heap[k]?=some o:=fun W C t k o h=>(Aow W _ k (Alx.1 h).1).trans h
 have n0:=new W C 87;have n1:=new (W.alloc (.cells C 87)) D 3;simp only[An5]at n1
 refine⟨?_,((R.alloc _).alloc _).alloc _,⟨by simp,.inr ⟨_,_,C,rfl,hs,far _ _ _ _ _ (far _ _ _ _ _ n0),Amu _,hm,by simp[hC],by simp⟩⟩,⟨by simp,.inr ⟨_,_,D,rfl,by omega,far _ _ _ _ _ n1,Amu _,hm,by simp[hD],by simp⟩⟩,(fun x hx=>by cases hx),(fun x hx=>by cases hx),by omega,hr,by omega⟩
 have:=(A7.new ((W.alloc (.cells C 87)).alloc (.cells D 3)) (C8 cx cy deep size (.slice (some ⟨W.heap.size,0,none⟩) 0 cap) (.slice (some ⟨W.heap.size+1,0,none⟩) 0 cap)) 43).up (w0:=w) ((R.alloc _).alloc _).old
 simpa only[An5]using this
theorem A1v {W:World}{B cap:Nat}{e:TypeId}{g:Nat}{xs:List Value}(h:W.ownsRow B e 1 (.slice (some ⟨g,0,none⟩) cap cap) cap xs):B<=g/\W.heap[g]?=some (.cells xs.toArray e (0,0)):=by
 obtain⟨hl,h⟩:=h
 rcases h with⟨h,_⟩ |⟨g',c,cur,h1,h2,h3,h4,h5,h6,h7⟩
 ·cases h
 ·injection h1 with h1 _ h8
  injection h1 with h1
  injection h1 with h1
  subst h1 h8
  refine⟨h2,?_⟩
  rw[<-h7,h3];have:cur.toList.take (cap*1)=cur.toList:=Aom (by simp[h6])
  rw[this]
theorem A5f {cx cy d s cap B:Nat}{gs gm:Nat}{xs:List Nat}{ys:List Int}{W:World}(hcap:s*s=cap)(h:Made B ((s:Int).toNat *(s:Int).toNat) xs ys (.slice (some ⟨gs,0,none⟩) cap cap) (.slice (some ⟨gm,0,none⟩) cap cap) W) :
 Vm cx cy d s xs ys B (.tuple #[.agg #[.complex .f32 cx cy,.int .i64 d,.int .i64 s,.slice (some ⟨gs,0,none⟩) cap cap,.slice (some ⟨gm,0,none⟩) cap cap],.bool true]) W:=by
 have e:(s:Int).toNat *(s:Int).toNat=cap:=by rw[Anc];exact hcap
 have hS:=h.S;have hM:=h.M;rw[e]at hS hM;obtain⟨b1,c1⟩:=A1v hS;obtain⟨b2,c2⟩:=A1v hM
 refine⟨gs,gm,by rw[hcap];rfl,b1,b2,fun x=>?_,c1,c2⟩
 rw[x,c2]at c1;injection c1 with c1
 injection c1 with _ c1
 cases c1
def A9x (w:World)(cx cy:Nat)(d s:Nat)(ok:Nat->Nat->Bool)(st:Nat->Nat->Int)(sm:Nat->Nat->Nat)(e:Ending)(w':World):Prop :=
 Below w.heap.size w w' /\(((∃i j,i<s/\j<s/\ok i j=false)/\e=.returned Ad9) \/
  ((∀i j,i<s->j<s->ok i j=true)/\∃v,e=.returned v/\Vm cx cy d s (rowsOf s sm s) (rowsOf s st s) w.heap.size v w'))
theorem Lv (cx cy d s:Nat)(A6:Int)(hd10:d<=10)(hs8:s<=8)(hpl:Eg cx cy d s=true){ok:Nat->Nat->Bool}{b0 b1 b2 b3:Nat->Nat->Int}{px py:Nat->Nat->Nat}{st:Nat->Nat->Int}{sm:Nat->Nat->Nat}(C:Afp cx cy d s A6 ok b0 b1 b2 b3 px py st sm)(w:World) :
 Calls Vp.prog 17 #[.complex .f32 cx cy,.int .i64 d,.int .i64 s,.int .i64 A6] w (A9x w cx cy d s ok st sm):=by
 have R:=A7.new w (C8 0 0 0 0 (.slice none 0 0) (.slice none 0 0)) 43;have HP:=Aly (fun w=>Pr cx cy d s w)
 rw[hpl]at HP;have HCV:=Aly C;clear C hpl;unfold C8 at R
 go_enter Vp.Pj,Vp.A4f
 unfold Vp.guarded;simp only[Vp.lay,Nat.reduceBEq,Amk,Ao5,Apg,Vp.guards,Vp.made]
 go_wp2_with fail
 refine(HP.out _).mono ?_
 rintro e w1 ⟨rfl,hd⟩;have HR:=Aly (R.step (hd.below _));clear R hd;obtain⟨iF,hiF,hzF0,hzF1,hzF2⟩:=Ap2 A17;obtain⟨iI,hiI,hzI0,hzI1,hzI2⟩:=Ap2 Wf;obtain⟨cap,hcap⟩:∃cap:Nat,s*s=cap:=⟨_,rfl⟩;have hc64:cap<=64:=by rw[<-hcap];exact Ap4 hs8 hs8
 have kss:((s*s:Nat):Int)=(s:Int)*s:=by simp
 have kc:wrap64 ((s:Int)*s)=(cap:Int):=by
  rw[<-kss,hcap]
  exact Ev (by omega) (by omega)
 obtain⟨cF,hcF,hF⟩:=Dq (P:=Vp.prog) 40 87 iF _ (Vp.Bl Tryz.underlying40) hiF hzF0 cap (by omega) (by omega)
 obtain⟨cI,hcI,hI⟩:=Dq (P:=Vp.prog) 41 3 iI _ (Vp.Bl Tryz.underlying41) hiI hzI0 cap (by omega) (by omega)
 have kcs:((cap:Nat):Int)=(s:Int)*s:=by rw[<-hcap];simp
 have hF2:=hF;have hI2:=hI;simp only[kcs]at hF2 hI2;have HT:=Aly (TM.Aia cx cy d s (show cap<=maxLen by unfold maxLen;omega) (show cF.size=cap by rw[hcF,hzF1];omega) (show cI.size=cap by rw[hcI,hzI1];omega) HR.out (Am0 _))
 unfold C8 at HT;clear HR
 go_wp2
 clear hF hI hF2 hI2 kcs kc kss;generalize w1.heap.size+1+1=ob at *;generalize w1.heap.size+1=gm at *;generalize w1.heap.size=gs at *
 go_loopw [11] (fun i wr=>∃(k N:Nat),k<=s/\i=.int .i64 k/\Hid (N=k*s)/\Hid (∀i j,i<k->j<s->ok i j=true)/\Hid (TM w w.heap.size ob cx cy d s N N (rowsOf s sm k) (rowsOf s st k) (.slice (some ⟨gs,0,none⟩) N cap) (.slice (some ⟨gm,0,none⟩) N cap) wr)) (fun i _=>(s-intOf i).toNat)
 case atStart=>exact⟨0,0,by omega,rfl,(by show 0=0*s;simp),(fun i j h=>by omega),HT⟩
 case round =>
  obtain⟨k,N,hk,rfl,HN,HOK,HT⟩:=hrel;obtain⟨wo,rfl⟩:∃wo,wo=wr:=⟨_,rfl⟩
  by_cases hks:k<s
  ·go_wp2
   go_loopw [12] (fun j wr=>∃(l N:Nat),l<=s/\j=.int .i64 l/\Hid (N=k*s+l)/\Hid (∀j,j<l->ok k j=true)/\Hid (TM w w.heap.size ob cx cy d s N N (Ov s sm k l) (Ov s st k l) (.slice (some ⟨gs,0,none⟩) N cap) (.slice (some ⟨gm,0,none⟩) N cap) wr)) (fun j _=>(s-intOf j).toNat)
   case atStart=>exact⟨0,N,by omega,rfl,HN,(fun j h=>by omega),by rw[Abp,Abp];exact HT⟩
   case round =>
    clear HT HN;obtain⟨l,N,hl,rfl,HN,HOL,HT⟩:=hrel;clear wo;obtain⟨wo,rfl⟩:∃wo,wo=wr:=⟨_,rfl⟩
    by_cases hls:l<s
    ·have hN72:N+1<=cap:=by
      have h2:=HN.out;have h3:(k+1)*s<=s*s:=Am3 _ (by omega)
      rw[Aon]at h3
      omega
     have HC:=Aly (HCV.out.box k l hks hls);have HST:=Aly (HCV.out.state k l hks hls);have HPT:=Aly (HCV.out.Akj k l hks hls);have HSM:=Aly (HCV.out.It k l hks hls);have hz:=HCV.out.Alp k l;obtain⟨y0,y1⟩:=HCV.out.Alq k l;obtain⟨p,ep⟩:∃p,b0 k l=p:=⟨_,rfl⟩;obtain⟨q,eq⟩:∃p,b1 k l=p:=⟨_,rfl⟩;obtain⟨r,er⟩:∃p,b2 k l=p:=⟨_,rfl⟩;obtain⟨u,eu⟩:∃p,b3 k l=p:=⟨_,rfl⟩;obtain⟨t,et⟩:∃p,ok k l=p:=⟨_,rfl⟩;obtain⟨x,ex⟩:∃p,px k l=p:=⟨_,rfl⟩;obtain⟨y,ey⟩:∃p,py k l=p:=⟨_,rfl⟩;obtain⟨z,ez⟩:∃p,sm k l=p:=⟨_,rfl⟩;obtain⟨sT,eT⟩:∃p,st k l=p:=⟨_,rfl⟩;rw[ep,eq,er,eu,et]at HC;rw[ep,eq,er,eu,et,eT]at HST;rw[ex,ey]at HPT;rw[ex,ey,ez,et]at HSM;rw[ez]at hz;rw[eT]at y0 y1;have HZ:=Aly ez;have HS:=Aly eT;have HT':=Aly et;clear ep eq er eu et ex ey ez eT
     go_wp2_with fail
     refine(HC.out _).mono ?_
     rintro e w2 ⟨rfl,hb⟩;have T:=HT.out.step hb;clear HT hb HC
     cases t with
     | false =>
       replace T:=T.alloc (.cells #[.int .i64 p,.int .i64 q,.int .i64 r,.int .i64 u] 93);obtain⟨c0,c1,c2,c3,c4⟩:=T.rc;obtain⟨f0,f1,f2,f3,f4⟩:=T.R.Aav;have HB:=Aly T.old;clear T
       go_wp2
       exact Am5 (v:=.tuple #[.agg #[.complex .f32 0 0,.int .i64 0,.int .i64 0,.slice none 0 0,.slice none 0 0],.bool false]) (by simp[results,Vp.No,Tryz.f17,go_sem,c0,c1,c2,c3,c4]) rfl ⟨Ahz HB.out (Am0 _) _ _ _ _ _,.inl ⟨⟨k,l,hks,hls,HT'.out⟩,rfl⟩⟩
     | true =>
       have HSTT:=Aly (HST.out rfl);have HSMM:=Aly (HSM.out rfl);clear HST HSM;have X:=A7.new w2 #[.int .i64 p,.int .i64 q,.int .i64 r,.int .i64 u] 93;have x0:=X.cell 0 _ rfl;have x1:=X.cell 1 _ rfl;have x2:=X.cell 2 _ rfl;have x3:=X.cell 3 _ rfl;have HT2:=Aly (T.alloc (.cells #[.int .i64 p,.int .i64 q,.int .i64 r,.int .i64 u] 93));clear X T
       go_wp2_with fail
       refine(HSTT.out _).mono ?_
       rintro e w3 ⟨rfl,hb⟩;have T3:=HT2.out.step hb;have hbase:=T3.old.size;obtain⟨-,-,-,k3,-⟩:=T3.oc;clear x0 x1 x2 x3 HT2 hb
       go_wp2_with fail
       go_region_law (first
        |(go_simp
          go_at_call 50
          refine(HPT.out _).mono ?_
          rintro e w4 ⟨rfl,rfl⟩;have T4:=T3.drw (Bp.refl _).drew;obtain⟨-,-,-,k4,-⟩:=T4.oc)
        |(go_simp
          go_at_call 49
          refine(HSMM.out _).mono ?_
          rintro e w5 ⟨rfl,hd⟩;have T5:=T4.drw hd;have hb5:=T5.old.size;obtain⟨-,-,-,k5,-⟩:=T5.oc;obtain⟨-,-,-,k5',-⟩:=(T5.alloc (.cells #[.float .f32 z] 87)).oc;clear hd)
        |(refine Hg _ (by rfl) _ _ _ (by rfl) w.heap.size 87 iF 1 (Vp.Bl Tryz.underlying40) hiF hzF1 gs N cap ((Ov s sm k l).map Db) (by rfl) (T5.S.alloc _) ⟨w5.heap.size,0,none⟩ 1 1 [Db z] (by rfl) (by rfl) (World.news_of_block (cs:=#[Db z]) (t:=87) (fr:=(0,0)) (Aox w5 _)) (by simp[Db,Value.oneCell']) (by omega) ?_
          intro w6 hown hgrow;obtain⟨T6,k6,f6⟩:=(T5.alloc _).It hz hown hgrow))
       all_goals
        have HT6:=Aly T6;obtain⟨-,-,-,-,k7⟩:=T6.oc;obtain⟨-,-,-,-,k8⟩:=(T6.alloc (.cells #[.int .i64 sT] 3)).oc;have hb6:=T6.old.size;clear T3 T4 T5 T6 k3 k4 k5 k5' k6 f6 hown hgrow;generalize w6.setCell ⟨ob,3,none⟩ (.slice (some ⟨gs,0,none⟩) (N+1) cap)=w7 at *
        go_wp2_with (at_builtin;refine wpList_append_own_spare _ rfl _ _ _ rfl w.heap.size 3 iI 1 (Vp.Bl Tryz.underlying41) hiI hzI1 gm N cap ((Ov s st k l).map By) rfl (HT6.out.M.alloc _) ⟨w7.heap.size,0,none⟩ 1 1 [By sT] rfl rfl (World.news_of_block (cs:=#[By sT]) (t:=3) (fr:=(0,0)) (Aox w7 _)) (by simp[By,Value.oneCell']) (by omega) ?_;intro w8 hown hgrow;obtain⟨T8,k9,f9⟩:=(HT6.out.alloc _).mark ⟨y0,y1⟩ hown hgrow;have HT8:=Aly T8;clear T8 hown hgrow)
        go_roundw
        case rel=>exact⟨l+1,N+1,by omega,by go_num,(by show N+1=k*s +(l+1);have:=HN.out;omega),(fun j hj=>by
         by_cases e:j=l
         ·rw[e];exact HT'.out
         ·exact HOL.out j (by omega)),(by
         show TM _ _ _ _ _ _ _ _ _ (Ov s sm k (l+1)) (Ov s st k (l+1)) _ _ _
         rw[<-Wu,<-Wu,HZ.out,HS.out];exact HT8.out)⟩
        case measure=>simp[intOf];omega
    ·obtain rfl:l=s:=by omega
     go_wp2
     go_roundw
     case rel=>exact⟨k+1,N,by omega,by go_num,(by show N=(k+1)*l;rw[Aon];exact HN.out),(fun i j hi hj=>by
      by_cases e:i=k
      ·rw[e];exact HOL.out j hj
      ·exact HOK.out i j (by omega) hj),(by rw[<-A1s,<-A1s];exact HT)⟩
     case measure=>simp[intOf];omega
  ·obtain rfl:k=s:=by omega
   obtain⟨c0,c1,c2,c3,c4⟩:=HT.out.rc;obtain⟨f0,f1,f2,f3,f4⟩:=HT.out.R.Aav;obtain⟨o0,o1,o2,o3,o4⟩:=HT.out.oc;have hne:=HT.out.ne
   go_wp2
   obtain rfl:cap=N:=by rw[<-hcap];exact HN.out.symm
   exact Am5 (v:=.tuple #[.agg #[.complex .f32 cx cy,.int .i64 d,.int .i64 k,.slice (some ⟨gs,0,none⟩) cap cap,.slice (some ⟨gm,0,none⟩) cap cap],.bool true]) (by simp[results,Vp.No,Tryz.f17,go_sem,c0,c1,c2,c3,c4]) rfl ⟨Ahz HT.out.old (Am0 _) _ _ _ _ _,.inr ⟨HOK.out,_,rfl,A5f hcap (HT.out.made HN.out _ _ _ _ _)⟩⟩
end
section
open Go.RowKit
attribute [local go_sem ↓] Go.wp_at_zero Go.wp_at_succ
attribute [local go_sem] Av Am
theorem Z9 (cx cy:Nat)(deep size A6:Int)(hpl:Eg cx cy deep size=false)(w:World) :
 Calls Vp.prog 17 #[.complex .f32 cx cy,.int .i64 deep,.int .i64 size,.int .i64 A6] w fun e w'=>e=.returned Ad9/\Below w.heap.size w w':=by
 have R:=A7.new w (C8 0 0 0 0 (.slice none 0 0) (.slice none 0 0)) 43;have HP:=Aly (fun w=>Pr cx cy deep size w)
 rw[hpl]at HP;clear hpl;unfold C8 at R
 go_enter Vp.Pj,Vp.A4f
 unfold Vp.guarded;simp only[Vp.lay,Nat.reduceBEq,Amk,Ao5,Apg,Vp.guards,Vp.made]
 go_wp2_with fail
 refine(HP.out _).mono ?_
 rintro e w1 ⟨rfl,hd⟩;replace R:=R.step (hd.below _);have c0:=R.cell 0 _ rfl;have c1:=R.cell 1 _ rfl;have c2:=R.cell 2 _ rfl;have c3:=R.cell 3 _ rfl;have c4:=R.cell 4 _ rfl;have f0:=R.frozen 0;have f1:=R.frozen 1;have f2:=R.frozen 2;have f3:=R.frozen 3;have f4:=R.frozen 4;have HB:=Aly R.old;clear R hd
 go_wp2
 exact Am5 (v:=.tuple #[.agg #[.complex .f32 0 0,.int .i64 0,.int .i64 0,.slice none 0 0,.slice none 0 0],.bool false]) (by simp[results,Vp.No,Tryz.f17,go_sem,c0,c1,c2,c3,c4]) rfl ⟨rfl,Ahz HB.out (Am0 _) _ _ _ _ _⟩
end
end Go.Proofs.YtjaehldnlamgkaaGreatDoor
