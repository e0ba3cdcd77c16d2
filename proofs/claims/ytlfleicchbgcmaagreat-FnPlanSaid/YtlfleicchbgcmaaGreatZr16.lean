import Derived.RangeFuncNested
import Derived.RangeFuncCalls
import Derived.RangeFuncLeaves
import Derived.RangeFuncBox
import Derived.OwnWalkIn
import Derived.TacticsInMore
import Derived.LoopNIn
import Derived.LoopIn
import Derived.WalkMore
import Derived.Shelf.Abstract
import Derived.Test.YtlfleicchbgcmaaGreatZr6
import Derived.Sort.QuietThIn
import Derived.Test.YtlfleicchbgcmaaGreatZr0
import Derived.Test.YtlfleicchbgcmaaGreatZrK
set_option linter.all false
set_option maxHeartbeats 16000000
set_option maxRecDepth 100000
namespace Go.Proofs.YtlfleicchbgcmaaGreat
section
open Go.RowKit
theorem Vn (a b c d:Int)(hv:Bl a b c d=true)(w:World):Calls Vp.prog 130 #[.agg #[.int .i64 a,.int .i64 b,.int .i64 c,.int .i64 d]] w fun e w'=>e=.returned (Fx (Bx.sq ⟨a,b,c,d⟩))/\Below w.heap.size w w':=by
 obtain⟨X,Z⟩:=A40 w #[.int .i64 a,.int .i64 b,.int .i64 c,.int .i64 d] 93 #[.int .i64 0,.int .i64 0,.int .i64 0,.int .i64 0] 93;obtain⟨b1,b2,b3,b4,b5,b6⟩:=Bx.bd (x:=⟨a,b,c,d⟩) hv;dsimp only at b1 b2 b3 b4 b5 b6;have l1:=Fb (l:=a) (h:=b) (k:=134217728) (by omega) (by omega)
 have l2:=Fb (l:=c) (h:=d) (k:=134217728) (by omega) (by omega)
 have l3:=Dm (l:=a) (h:=b) (k:=134217728) (by omega) (by omega) (by omega) (by omega)
 have l4:=Dm (l:=c) (h:=d) (k:=134217728) (by omega) (by omega) (by omega) (by omega)
 have u1:=Hf (x:=a) (y:=c) (k:=134217728) (by omega) (by omega) (by omega) (by omega)
 have u2:=Hf (x:=a) (y:=d) (k:=134217728) (by omega) (by omega) (by omega) (by omega)
 have u3:=Hf (x:=b) (y:=c) (k:=134217728) (by omega) (by omega) (by omega) (by omega)
 have u4:=Hf (x:=b) (y:=d) (k:=134217728) (by omega) (by omega) (by omega) (by omega)
 have bm:-18014398509481984<=Qs ⟨a,b,c,d⟩/\Qs ⟨a,b,c,d⟩<=18014398509481984:=by unfold Qs;dsimp only;omega
 have bn:-18014398509481984<=Qr ⟨a,b,c,d⟩/\Qr ⟨a,b,c,d⟩<=18014398509481984:=by unfold Qr;dsimp only;omega
 have HV:=Aoy (Ep a b c d);rw[hv]at HV;have HQ:=Aoy (Fs a b (by omega) (by omega) (by omega) (by omega))
 have HR:=Aoy (Fs c d (by omega) (by omega) (by omega) (by omega))
 have HT:=Aoy (A5u a b c d (by omega) (by omega) (by omega) (by omega) (by omega) (by omega) (by omega) (by omega))
 have hsq:Bx.sq ⟨a,b,c,d⟩=⟨(Aw a b-Ba c d) / 16777216,Kz (Ba a b-Aw c d) 16777216,(Qs ⟨a,b,c,d⟩+Qs ⟨a,b,c,d⟩) / 16777216,Kz (Qr ⟨a,b,c,d⟩+Qr ⟨a,b,c,d⟩) 16777216⟩:=by
  unfold Bx.sq;rw[show 2*Qs ⟨a,b,c,d⟩=Qs ⟨a,b,c,d⟩+Qs ⟨a,b,c,d⟩ by omega,show 2*Qr ⟨a,b,c,d⟩=Qr ⟨a,b,c,d⟩+Qr ⟨a,b,c,d⟩ by omega]
 rw[hsq];generalize Aw a b=s1 at *;generalize Aw c d=s3 at *;generalize Ba a b=s2 at *;generalize Ba c d=s4 at *;generalize Qs ⟨a,b,c,d⟩=m3 at *;generalize Qr ⟨a,b,c,d⟩=n3 at *;have HL:=Aoy (Y7 s1 s2 s3 s4 (by omega) (by omega) (by omega) (by omega) (by omega) (by omega) (by omega) (by omega))
 have HP:=Aoy (Hy m3 n3 m3 n3 (by omega) (by omega) (by omega) (by omega) (by omega) (by omega) (by omega) (by omega))
 have HO:=Aoy (Pa (s1-s4) (s2-s3) 24 (by decide) (by omega) (by omega) (by omega) (by omega))
 have HO2:=Aoy (Pa (m3+m3) (n3+n3) 24 (by decide) (by omega) (by omega) (by omega) (by omega))
 have hk:((2^24:Nat):Int)=16777216:=rfl;have hk2:((24:Nat):Int)=24:=rfl;rw[hk,hk2]at HO HO2;generalize s1-s4=D1 at *;generalize s2-s3=D2 at *;generalize m3+m3=D3 at *;generalize n3+n3=D4 at *;generalize D1 / 16777216=F1 at *;generalize Kz D2 16777216=F2 at *;generalize D3 / 16777216=F3 at *;generalize Kz D4 16777216=F4 at *;have HD:=Aoy (Uf F1 F2 F3 F4);obtain⟨o1,o2,o3,o4,o5,hx⟩:=K6 ⟨F1,F2,F3,F4⟩;rw[hx]at HD;rw[hx];clear b1 b2 b3 b4 b5 b6 l1 l2 l3 l4 u1 u2 u3 u4 bm bn hsq hk hk2 hx hv;have x0:=X.cell 0 _ rfl;have x1:=X.cell 1 _ rfl;have x2:=X.cell 2 _ rfl;have x3:=X.cell 3 _ rfl
 go_enter Vp.func130,Tryz.ntmps130
 go_wp2_with fail
 refine(HV.out _).mono ?_
 rintro e w1 ⟨rfl,hb⟩;clear x0 x1 x2 x3;replace X:=X.step hb;replace Z:=Z.step hb;clear hb;have x0:=X.cell 0 _ rfl;have x1:=X.cell 1 _ rfl;have x2:=X.cell 2 _ rfl;have x3:=X.cell 3 _ rfl
 go_wp2_with fail
 refine(Fp a b c d _).mono ?_
 rintro e w2 ⟨rfl,hb⟩;clear x0 x1 x2 x3;replace X:=X.step hb;replace Z:=Z.step hb;clear hb;have Y:=(A9.new w2 #[.int .i64 a,.int .i64 b,.int .i64 c,.int .i64 d] 158).up X.old;have hlz:=Z.lt;replace Z:=Z.alloc (.cells #[.int .i64 a,.int .i64 b,.int .i64 c,.int .i64 d] 158);have hsz:=X.old.size;clear X
 go_upto_region 4 with fail
 generalize w2.heap.size=yb at *;generalize w2.alloc (.cells #[.int .i64 a,.int .i64 b,.int .i64 c,.int .i64 d] 158)=W at *;have hyb:yb<W.drew.heap.size:=Y.lt;have HY:Hid (∀W',Below W.drew.heap.size W.drew W'->A9 w yb #[.int .i64 a,.int .i64 b,.int .i64 c,.int .i64 d] 158 W'):=fun W' h=>(Y.step ((Au.refl _).drew.below _)).step h
 have HZ:Hid (∀W',Below W.drew.heap.size W.drew W'->A9 w (w.heap.size+1) #[.int .i64 0,.int .i64 0,.int .i64 0,.int .i64 0] 93 W'):=fun W' h=>(Z.step ((Au.refl _).drew.below _)).step h
 have HW:Hid (∀W',Below W.drew.heap.size W.drew W'->Below w.heap.size w W'):=fun W' h=>(HY.out W' h).old
 have hbk:=Aph W.drew.heap.size W.drew;have hzl:w.heap.size+1<W.drew.heap.size:=Z.lt;have HYd:Hid (∀o,A9 w yb #[.int .i64 a,.int .i64 b,.int .i64 c,.int .i64 d] 158 (W.alloc o).drew):=fun o=>(Y.alloc o).step ((Au.refl _).drew.below _)
 have H0:Hid (∀o,Below W.drew.heap.size W.drew (W.alloc o).drew):=fun o=>(Aph _ W.drew).alloc (Ap0 _) o
 have HWW:Hid (Below w.heap.size w W):=Y.old;clear Y Z
 go_cut [5]from 13 to 19 (fun p wx=>∃rb:Nat,p=.pointer (some ⟨rb,0,none⟩)/\Hid (A9 w rb #[.int .i64 D1,.int .i64 D2] 156 wx/\A9 w yb #[.int .i64 a,.int .i64 b,.int .i64 c,.int .i64 d] 158 wx/\A9 w (w.heap.size+1) #[.int .i64 0,.int .i64 0,.int .i64 0,.int .i64 0] 93 wx/\w.heap.size+1<rb))
 case first =>
  go_region_held3 (fun w'=>w'.cell? ⟨yb,0,none⟩=some (.int .i64 a)/\w'.cell? ⟨yb,1,none⟩=some (.int .i64 b)/\w'.cell? ⟨yb,2,none⟩=some (.int .i64 c)/\w'.cell? ⟨yb,3,none⟩=some (.int .i64 d)) (((first|dsimp only|skip);first |(with_reducible exact⟨(HY.out _ hbk).cell 0 _ rfl,(HY.out _ hbk).cell 1 _ rfl,(HY.out _ hbk).cell 2 _ rfl,(HY.out _ hbk).cell 3 _ rfl⟩) |(with_reducible exact⟨((HY.out _ hbk).alloc _).cell 0 _ rfl,((HY.out _ hbk).alloc _).cell 1 _ rfl,((HY.out _ hbk).alloc _).cell 2 _ rfl,((HY.out _ hbk).alloc _).cell 3 _ rfl⟩) |(with_reducible exact⟨(HYd.out _).cell 0 _ rfl,(HYd.out _).cell 1 _ rfl,(HYd.out _).cell 2 _ rfl,(HYd.out _).cell 3 _ rfl⟩) |(with_reducible exact⟨((HY.out _ hbk).Et (Nat.le_of_succ_le (Nat.le_of_lt hrl)) hne _ _).cell 0 _ rfl,((HY.out _ hbk).Et (Nat.le_of_succ_le (Nat.le_of_lt hrl)) hne _ _).cell 1 _ rfl,((HY.out _ hbk).Et (Nat.le_of_succ_le (Nat.le_of_lt hrl)) hne _ _).cell 2 _ rfl,((HY.out _ hbk).Et (Nat.le_of_succ_le (Nat.le_of_lt hrl)) hne _ _).cell 3 _ rfl⟩))) (first
   |(go_at_call 106;(first |(with_reducible refine(HQ.out _).mono ?_) |(with_reducible refine(HR.out _).mono ?_));rintro e w' ⟨rfl,hb⟩;first |(replace hbk:=hbk.trans (hb.mono hbk.size);first |(replace R:=R.step hb;have r0:=R.cell 0 _ rfl;have r1:=R.cell 1 _ rfl;have f0:=R.frozen 0;have f1:=R.frozen 1)|skip) |(have R:=((A9.new _ #[.int .i64 0,.int .i64 0] 156).step hb).up (HW.out _ hbk);have hne:yb≠_:=Aqm (Ap6 hyb hbk.size);have hrl:=Ap6 hzl hbk.size;replace hbk:=(hbk.alloc hbk.size _).trans (hb.mono (hbk.alloc hbk.size _).size);have r0:=R.cell 0 _ rfl;have r1:=R.cell 1 _ rfl;have f0:=R.frozen 0;have f1:=R.frozen 1) |(have R:=(((A9.new W #[.int .i64 0,.int .i64 0] 156).step ((Au.refl _).drew.below _)).step hb).up HWW.out;have hne:yb≠W.heap.size:=Aqm hyb;have hrl:w.heap.size+1<W.heap.size:=hzl;replace hbk:=(H0.out _).trans (hb.mono (H0.out _).size);have r0:=R.cell 0 _ rfl;have r1:=R.cell 1 _ rfl;have f0:=R.frozen 0;have f1:=R.frozen 1);clear hb)
   |(go_at_call 105;(with_reducible refine(HL.out _).mono ?_);rintro e w' ⟨rfl,hb⟩;first |(replace hbk:=hbk.trans (hb.mono hbk.size);first |(replace R:=R.step hb;have r0:=R.cell 0 _ rfl;have r1:=R.cell 1 _ rfl;have f0:=R.frozen 0;have f1:=R.frozen 1)|skip) |(have R:=((A9.new _ #[.int .i64 0,.int .i64 0] 156).step hb).up (HW.out _ hbk);have hne:yb≠_:=Aqm (Ap6 hyb hbk.size);have hrl:=Ap6 hzl hbk.size;replace hbk:=(hbk.alloc hbk.size _).trans (hb.mono (hbk.alloc hbk.size _).size);have r0:=R.cell 0 _ rfl;have r1:=R.cell 1 _ rfl;have f0:=R.frozen 0;have f1:=R.frozen 1) |(have R:=(((A9.new W #[.int .i64 0,.int .i64 0] 156).step ((Au.refl _).drew.below _)).step hb).up HWW.out;have hne:yb≠W.heap.size:=Aqm hyb;have hrl:w.heap.size+1<W.heap.size:=hzl;replace hbk:=(H0.out _).trans (hb.mono (H0.out _).size);have r0:=R.cell 0 _ rfl;have r1:=R.cell 1 _ rfl;have f0:=R.frozen 0;have f1:=R.frozen 1);clear hb))
  all_goals
   go_wp2_with fail
   go_meet
   first
    | exact⟨_,rfl,(A9.new _ _ _).up (HW.out _ hbk),(HY.out _ hbk).alloc _,(HZ.out _ hbk).alloc _,by have:=hbk.size;omega⟩
    | exact⟨_,rfl,(R.set (by omega) 0 (.int .i64 D1)).set (by omega) 1 (.int .i64 D2),(HY.out _ hbk).Et (by omega) hne _ _,(HZ.out _ hbk).Et (by omega) (by omega) _ _,by omega⟩
 case rest =>
  obtain⟨rb,rfl,HC⟩:=hcut;clear HY HZ HW hbk HYd H0 HWW hyb hzl hlz hsz HQ HR HL;obtain⟨R,Y,Z,hrb⟩:=HC.out;clear HC;have hrl:=R.lt;have y0:=Y.cell 0 _ rfl;have y1:=Y.cell 1 _ rfl;have y2:=Y.cell 2 _ rfl;have y3:=Y.cell 3 _ rfl
  go_wp2_with fail
  refine(HT.out _).mono ?_
  rintro e w5 ⟨rfl,hb⟩;clear y0 y1 y2 y3 Y;replace R:=R.step hb;replace Z:=Z.step hb;have hib:rb<w5.heap.size:=R.lt;clear hb;have I:=(A9.new w5 #[.int .i64 m3,.int .i64 n3] 156).up R.old;replace R:=R.alloc (.cells #[.int .i64 m3,.int .i64 n3] 156);replace Z:=Z.alloc (.cells #[.int .i64 m3,.int .i64 n3] 156);have i0:=I.cell 0 _ rfl;have i1:=I.cell 1 _ rfl
  go_wp2_with fail
  refine(HP.out _).mono ?_
  rintro e w6 ⟨rfl,hb⟩;clear i0 i1;replace R:=R.step hb;replace Z:=Z.step hb;replace I:=I.step hb;clear hb;have i0:=I.cell 0 _ rfl;have i1:=I.cell 1 _ rfl;have f0:=I.frozen 0;have f1:=I.frozen 1
  go_upto_region 7 with fail
  clear i0 i1 f0 f1;generalize w5.heap.size=ib at *;replace I:A9 w ib #[.int .i64 D3,.int .i64 D4] 156 ((w6.setCell ⟨ib,0,none⟩ (.int .i64 D3)).setCell ⟨ib,1,none⟩ (.int .i64 D4)):=(I.set (by omega) 0 (.int .i64 D3)).set (by omega) 1 (.int .i64 D4)
  replace R:=R.Et (b':=ib) (by omega) (by omega) (.int .i64 D3) (.int .i64 D4)
  replace Z:=Z.Et (b':=ib) (by omega) (by omega) (.int .i64 D3) (.int .i64 D4)
  generalize (w6.setCell ⟨ib,0,none⟩ (.int .i64 D3)).setCell ⟨ib,1,none⟩ (.int .i64 D4)=V at *;have HRk:Hid (∀W',Below V.drew.heap.size V.drew W'->A9 w rb #[.int .i64 D1,.int .i64 D2] 156 W'):=fun W' h=>(R.step ((Au.refl _).drew.below _)).step h
  have HIk:Hid (∀W',Below V.drew.heap.size V.drew W'->A9 w ib #[.int .i64 D3,.int .i64 D4] 156 W'):=fun W' h=>(I.step ((Au.refl _).drew.below _)).step h
  have HZk:Hid (∀W',Below V.drew.heap.size V.drew W'->A9 w (w.heap.size+1) #[.int .i64 0,.int .i64 0,.int .i64 0,.int .i64 0] 93 W'):=fun W' h=>(Z.step ((Au.refl _).drew.below _)).step h
  have HRs:=Aoy (fun W' h u0 u1 u2 u3=>(HRk.out W' h).Gl (b':=w.heap.size+1) (by omega) (by omega) u0 u1 u2 u3)
  have HIs:=Aoy (fun W' h u0 u1 u2 u3=>(HIk.out W' h).Gl (b':=w.heap.size+1) (by omega) (by omega) u0 u1 u2 u3)
  have hbk:=Aph V.drew.heap.size V.drew;clear R I Z
  go_region_held3 (fun w'=>w'.cell? ⟨rb,0,none⟩=some (.int .i64 D1)/\w'.cell? ⟨rb,1,none⟩=some (.int .i64 D2)/\w'.cell? ⟨ib,0,none⟩=some (.int .i64 D3)/\w'.cell? ⟨ib,1,none⟩=some (.int .i64 D4)) (((first|dsimp only|skip);first |(with_reducible exact⟨(HRk.out _ hbk).cell 0 _ rfl,(HRk.out _ hbk).cell 1 _ rfl,(HIk.out _ hbk).cell 0 _ rfl,(HIk.out _ hbk).cell 1 _ rfl⟩) |(with_reducible exact⟨(HRs.out _ hbk _ _ _ _).cell 0 _ rfl,(HRs.out _ hbk _ _ _ _).cell 1 _ rfl,(HIs.out _ hbk _ _ _ _).cell 0 _ rfl,(HIs.out _ hbk _ _ _ _).cell 1 _ rfl⟩))) (first
   |(go_at_call 128;(first |(with_reducible refine(HO.out _).mono ?_) |(with_reducible refine(HO2.out _).mono ?_));rintro e w' ⟨rfl,hb⟩;replace hbk:=hbk.trans (hb.mono hbk.size);clear hb)
   |(go_at_call 127;(with_reducible refine(HD.out _).mono ?_);rintro e w' ⟨rfl,hb⟩;replace hbk:=hbk.trans (hb.mono hbk.size);clear hb;have z0:=(HZk.out _ hbk).cell 0 _ rfl;have z1:=(HZk.out _ hbk).cell 1 _ rfl;have z2:=(HZk.out _ hbk).cell 2 _ rfl;have z3:=(HZk.out _ hbk).cell 3 _ rfl;have g0:=(HZk.out _ hbk).frozen 0;have g1:=(HZk.out _ hbk).frozen 1;have g2:=(HZk.out _ hbk).frozen 2;have g3:=(HZk.out _ hbk).frozen 3))
  all_goals
   go_wp2
   exact Ap4 (v:=.tuple #[.agg #[.int .i64 o1,.int .i64 o2,.int .i64 o3,.int .i64 o4],.bool o5]) (by simp[results,Tryz.f130,go_sem,z0,z1,z2,z3]) rfl ⟨rfl,A3f (HZk.out _ hbk).old (b:=w.heap.size+1) (by omega) _ _ _ _⟩
end
section
open Go.RowKit
def Ac8 (h0:Nat)(N:Nat)(I:Nat->World->Prop)(Ix:Code->Nat->World->Prop)(k:Nat)(W:World):Exit->Act->World->Prop
 | .normal,_,B=>KeepsFrom h0 W B/\k<N/\I (k+1) B
 | .ret,_,B=>KeepsFrom h0 W B/\Ix .ret k B
 | .exit id,_,B=>KeepsFrom h0 W B/\Ix (.exit id) k B
 | .goto t,_,B=>KeepsFrom h0 W B/\Ix (.goto t) k B
 | .panic _,_,_=>False
 | .outgrown,_,_=>False
variable {F : Fence} {n : Nat} {P : Program}
def Bg (fn:FuncId)(tmps:Array Value)(ps:Array Tmp)(assign body:Code)(d:Nat)(st:LoopState)(pe:Option Code):Loop :=
 { state:=st,pending:=pe,fn:=fn,tmps:=tmps,params:=ps,assign:=assign,body:=body,defers:=d }
end
section
open Go.RowKit
def Aas (F:Fence)(n:Nat)(P:Program)(g:Nat)(lb:Array Value)(R:Nat->Array Value->Prop)(fini:Nat->Prop)(N:Nat)(Keep:Nat->World->Prop):Prop :=
 ∀(l:Nat) (J Jx:Nat->World->Prop) (W:World),
  (∀k A,J k A->Keep k A) ->
  (∀k A B,J k A->A.grownBy B none->J k B) ->
  (∀k v A,k<=N->R k v->J k A->YieldAt F (n-1) P l v A fun e B =>
   (e=.returned (.bool true)/\k<N/\J (k+1) B) \/(e=.returned (.bool false)/\Jx k B)) ->
  J 0 W ->
  CallsIn F n P g (#[.func (.yield l) #[] #[]]++lb) W fun e B=>(∃v,e=.returned v) /\((∃k,k<=N/\Jx k B) \/(∃k,k<=N/\fini k/\J k B))
variable {F : Fence} {n : Nat} {P : Program}
theorem A6n {g:Operand}{ps:Array Tmp}{assign body:Code}{Q:Exit->Act->World->Prop}{a:Act}{w:World}
 (hro:F.round=none) (h1:1<=n) {gf:Nat} {lb:Array Value} (hg:a.eval g=.func (.func gf) #[] lb) (hFg:F.fn gf) (eg:∀args w,(callFunc gf args).run P w=.ok (.enter gf args) w)
 {R:Nat->Array Value->Prop} {fini:Nat->Prop} {N:Nat} {Keep:Nat->World->Prop} (hseq:Aas F (n-1) P gf lb R fini N Keep) (hps:∀k v,R k v->v.size=ps.size)
 (I:Nat->World->Prop) (Ix:Code->Nat->World->Prop) (hI:OwnFrom w.heap.size I) (hIx:∀c,OwnFrom w.heap.size (Ix c)) (hIb:∀k A,I k A->Keep k A) (hi0:I 0 w) (a₁:Nat->Array Value->Act)
 (hassign:∀(l k:Nat) (v:Array Value) (W:World) (K:Act->World->Prop),R k v->K (a₁ k v) W ->
  assign.wpIn (F.inRound l) (n-1-1) P (Exit.then K (fun _ _ _=>False)) { tmps:=(ps.zip v).foldl (fun t (p,v)=>t.setIfInBounds p v) a.tmps,defers:=[] } W)
 (hbody:∀(l k:Nat) (v:Array Value) (W:World),k<=N->R k v->I k W->body.wpIn (F.inRound l) (n-1-1) P (Ac8 w.heap.size N I Ix k W) (a₁ k v) W)
 (hdone:∀(D k:Nat) (W:World),w.heap.size<=D->k<=N->fini k->I k W->W.heap[D]?=some (.deferred (some []))->Q .normal { a with defers:={ target:=.collected D,args:=#[] } :: a.defers } W)
 (hstop:∀(D:Nat) (c:Code) (k:Nat) (W:World),w.heap.size<=D->k<=N->Ix c k W->W.heap[D]?=some (.deferred (some []))->c.wpIn F n P Q { a with defers:={ target:=.collected D,args:=#[] } :: a.defers } W) :
 (Code.rangeFunc g ps assign body).wpIn F n P Q a w:=by
 refine wpIn_rangeFunc (fun fn hfn=>?_)
 rw[hro];obtain⟨s,hs⟩:∃s,w.heap.size=s:=⟨_,rfl⟩;obtain⟨W1,hW1⟩:∃W1,(w.alloc (.deferred (some []))).alloc (.loop (Bg fn a.tmps ps assign body s .ready none))=W1:=⟨_,rfl⟩
 have hg1:w.grownBy W1 none:=by
  rw[<-hW1];exact(Ar7 w _ none).trans (Ar7 _ _ none)
 have hL1:W1.heap[s+1]?=some (.loop (Bg fn a.tmps ps assign body s .ready none)):=by
  rw[<-hW1,<-hs];have:=World.alloc_heap_new (w.alloc (.deferred (some []))) (.loop (Bg fn a.tmps ps assign body w.heap.size .ready none))
  rwa [Apl]at this
 have hD1:W1.heap[s]?=some (.deferred (some [])):=by
  rw[<-hW1,<-hs];exact(Ati _ _ _ (by simp)).trans (World.alloc_heap_new w _)
 have hI1:I 0 W1:=hI 0 w W1 none hi0 hg1 (fun r e=>by cases e)
 rw[hs]at hI hIx hbody hdone hstop
 refine⟨s+1,[{ target:=.collected s,args:=#[] }],W1,{ target:=.fn (.func gf) lb,args:=#[.func (.yield (s+1)) #[] #[]] },W1,gf,
  #[.func (.yield (s+1)) #[] #[]]++lb,W1,?_,?_,?_,?_,fun _=>h1,?_⟩
 ·rw[<-hW1,<-hs];exact run_enterLoop_outer _ _ _ _ _
 ·simp only[resolve,hg];simp[go_sem]
 ·intro f' hf';simp[Target.leads]at hf';subst hf';exact hFg
 ·simp[invoke,go_sem,eg]
 ·refine(hseq (s+1)
   (fun k W=>I k W/\W.heap[s+1]?=some (.loop (Bg fn a.tmps ps assign body s .ready none))/\W.heap[s]?=some (.deferred (some [])))
   (fun k W=>∃c,Ix c k W/\W.heap[s+1]?=some (.loop (Bg fn a.tmps ps assign body s .done (some c)))/\W.heap[s]?=some (.deferred (some [])))
   W1 (fun k A h=>hIb k A h.1) ?_ ?_ ⟨hI1,hL1,hD1⟩).mono ?_
  ·rintro k A B ⟨hi,hl,hd⟩ hgr
   exact⟨hI k A B none hi hgr (fun r e=>by cases e),(hgr.block _ (Aoz.1 hl).1 (by simp)).trans hl,(hgr.block _ (Aoz.1 hd).1 (by simp)).trans hd⟩
  ·
   rintro k v A hk hR ⟨hi,hl,hd⟩;have hlt:s+1<A.heap.size:=(Aoz.1 hl).1
   refine⟨fn,_,assign,body,run_yield (P:=P) (args:=v) hl (hps k v hR),roundIn_of_wpIn hfn (hassign _ k v A _ hR ⟨_,run_beginRound hl rfl,?_⟩)⟩
   obtain⟨A2,hA2⟩:∃A2,A.putObj (s+1) (.loop { Bg fn a.tmps ps assign body s .ready none with state:=.busy })=A2:=⟨_,rfl⟩
   have hl2:A2.heap[s+1]?=some (.loop { Bg fn a.tmps ps assign body s .ready none with state:=.busy }):=by rw[<-hA2];exact World.putObj_heap_same hlt
   have hd2:A2.heap[s]?=some (.deferred (some [])):=by rw[<-hA2];exact(World.putObj_heap_other (by omega)).trans hd
   have hi2:I k A2:=by rw[<-hA2];exact hI.putObj _ hi (by omega) hl rfl
   rw[hA2]
   refine wpIn_mono (hbody (s+1) k v A2 hk hR hi2) ?_
   have ends:∀(jump:Option Code) (B:World),KeepsFrom s A2 B->B.heap[s+1]?=some (.loop { Bg fn a.tmps ps assign body s .ready none with state:=.busy }) /\
    (Instr.endRound (s+1) jump).run P B=.ok (.bool jump.isNone) (B.putObj (s+1) (.loop (Bg fn a.tmps ps assign body s (if jump.isNone then .ready else .done) jump))) /\
    (B.putObj (s+1) (.loop (Bg fn a.tmps ps assign body s (if jump.isNone then .ready else .done) jump))).heap[s+1]?=some (.loop (Bg fn a.tmps ps assign body s (if jump.isNone then .ready else .done) jump)) /\
    (B.putObj (s+1) (.loop (Bg fn a.tmps ps assign body s (if jump.isNone then .ready else .done) jump))).heap[s]?=some (.deferred (some [])):=by
    intro jump B hk3;have hl3:=hk3.same _ _ (by omega) hl2 rfl
    exact⟨hl3,run_endRound (P:=P) jump hl3,World.putObj_heap_same (Aoz.1 hl3).1,(World.putObj_heap_other (by omega)).trans (hk3.same _ _ (Ap0 _) hd2 rfl)⟩
   intro e a3 B hp
   cases e with
   | normal =>
     obtain⟨hk3,hkN,hi3⟩:=hp;obtain⟨hl3,hr,hl4,hd4⟩:=ends none B hk3
     exact⟨_,_,hr,.inl ⟨rfl,hkN,hI.putObj _ hi3 (by omega) hl3 rfl,hl4,hd4⟩⟩
   | ret =>
     obtain⟨hk3,hi3⟩:=hp;obtain⟨hl3,hr,hl4,hd4⟩:=ends (some .ret) B hk3
     exact⟨_,_,hr,.inr ⟨rfl,.ret,(hIx _).putObj _ hi3 (by omega) hl3 rfl,hl4,hd4⟩⟩
   | exit id =>
     obtain⟨hk3,hi3⟩:=hp;obtain⟨hl3,hr,hl4,hd4⟩:=ends (some (.exit id)) B hk3
     exact⟨_,_,hr,.inr ⟨rfl,.exit id,(hIx _).putObj _ hi3 (by omega) hl3 rfl,hl4,hd4⟩⟩
   | goto t =>
     obtain⟨hk3,hi3⟩:=hp;obtain⟨hl3,hr,hl4,hd4⟩:=ends (some (.goto t)) B hk3
     exact⟨_,_,hr,.inr ⟨rfl,.goto t,(hIx _).putObj _ hi3 (by omega) hl3 rfl,hl4,hd4⟩⟩
   | panic ch=>exact hp.elim
   | outgrown=>exact hp.elim
  ·
   rintro e B ⟨⟨v,rfl⟩,(⟨k,hkN,c,hi,hl,hd⟩ |⟨k,hkN,hf,hi,hl,hd⟩)⟩
   ·exact⟨some c,_,run_endLoop (P:=P) hl (by simp[Bg]),hstop _ c k _ (Ap0 _) hkN ((hIx c).putObj _ hi (by omega) hl rfl) ((World.putObj_heap_other (by omega)).trans hd)⟩
   ·exact⟨none,_,run_endLoop (P:=P) hl (by simp[Bg]),hdone _ k _ (Ap0 _) hkN hf (hI.putObj _ hi (by omega) hl rfl) ((World.putObj_heap_other (by omega)).trans hd)⟩
theorem Ft {b:Frame}{a:Act}{k:List Item}{cs:List Frame}{w:World}{c:Code}:step P (lone (b.atR a (.code (.scope c) :: k)) cs w)=.next (lone (b.atR a (.code c :: .inScope c :: k)) cs w) :=
 step_lone_go (by simp[stepG,stepG.exec,Frame.atR])
theorem Vz {b:Frame}{a:Act}{k:List Item}{cs:List Frame}{w:World}{c:Code}:step P (lone (b.atR a (.inScope c :: k)) cs w)=.next (lone (b.atR a k) cs w) :=
 step_lone_go (by simp[stepG,stepG.exec,Frame.atR])
theorem A6o {Q:Exit->Act->World->Prop}{a:Act}{w:World}{c:Code}(h:c.wpIn F n P (Exit.noGoto Q) a w):(Code.scope c).wpIn F n P Q a w:=by
 intro b k cs hro hb hr;have h0:(lone (b.atR a (.code (.scope c) :: k)) cs w).fenced P F:=fenced_calm hb hr rfl;obtain⟨e,a₁,w₁,hq,harr⟩:=h b (.inScope c :: k) cs hro hb hr
 cases e with
 | normal=>exact⟨.normal,a₁,w₁,hq,.head h0 Ft (StepsIn.trans harr (.one (fenced_calm hb hr rfl) Vz))⟩
 | exit id =>
   have hx:exitTo id (.inScope c :: k)=exitTo id k:=by simp[exitTo]
   exact⟨.exit id,a₁,w₁,hq,fun k' hk=>.head h0 Ft (harr.1 k' (by rw[hx];exact hk)),
    fun hr' hk=>let ⟨k₁,h1,h2⟩:=harr.2 hr' (by rw[hx];exact hk);⟨k₁,h1,.head h0 Ft h2⟩⟩
 | goto l=>exact hq.elim
 | ret=>exact⟨_,a₁,w₁,hq,.of_steps (.one h0 Ft) harr⟩
 | panic ch=>exact⟨_,a₁,w₁,hq,.of_steps (.one h0 Ft) harr⟩
 | outgrown=>exact⟨_,a₁,w₁,hq,.of_steps (.one h0 Ft) harr⟩
end
section
open Go.RowKit
structure Ch (s:Nat)(A B:World):Prop where
 size:A.heap.size<=B.heap.size
 blk:∀j,s<=j->j<A.heap.size->B.heap[j]?=A.heap[j]?
theorem Ch.refl (s:Nat)(A:World):Ch s A A:=⟨Ap0 _,fun _ _ _=>rfl⟩
theorem Ch.trans {s:Nat}{A B C:World}(h:Ch s A B)(k:Ch s B C):Ch s A C:=⟨Ap3 h.size k.size,fun j hj hl=>(k.blk j hj (Ap6 hl h.size)).trans (h.blk j hj hl)⟩
theorem Ch.grown {s:Nat}{A B:World}{row:Option Nat}(h:A.grownBy B row)(hr:∀r,row=some r->r<s):Ch s A B:=⟨h.size,fun j hj hl=>h.block j hl (fun e=>by have:=hr j e.symm;omega)⟩
theorem Ch.Ay {s:Nat}{A B:World}(h:Below A.heap.size A B):Ch s A B:=⟨h.size,fun j _ hl=>h.block j hl⟩
theorem Ch.keeps {s:Nat}{A B:World}(h:Ch s A B):KeepsFrom s A B:=⟨h.size,fun k o hB hk _=>(h.blk k hB (Aoz.1 hk).1).trans hk⟩
theorem Ch.up {s s':Nat}{A B:World}(h:Ch s A B)(hs:s<=s'):Ch s' A B:=⟨h.size,fun j hj hl=>h.blk j (Ap3 hs hj) hl⟩
theorem Nb {A B:World}(h:Below A.heap.size A B)(row:Option Nat):A.grownBy B row:=⟨h.os,h.tape,h.output,h.size,fun k hk _=>h.block k hk⟩
def Yt (B:Nat)(I:Nat->World->Prop):Prop:=∀s W W' row,I s W->W.grownBy W' row ->(∀r,row=some r->B<=r)->I s W'
theorem Yt.from {B:Nat}{I:Nat->World->Prop}(h:Yt B I):OwnFrom B I:=fun s W W' row hs hg hr=>h s W W' row hs hg (fun r e=>(hr r e).1)
def A96 (h0:Nat)(N:Nat)(I:Nat->World->Prop)(Ix:Code->Nat->World->Prop)(k:Nat)(W:World):Exit->Act->World->Prop
 | .normal,_,B=>Ch h0 W B/\k<N/\I (k+1) B
 | .ret,_,B=>Ch h0 W B/\Ix .ret k B
 | .exit id,_,B=>Ch h0 W B/\Ix (.exit id) k B
 | .goto t,_,B=>Ch h0 W B/\Ix (.goto t) k B
 | .panic _,_,_=>False
 | .outgrown,_,_=>False
def Aar (F:Fence)(n:Nat)(P:Program)(g:Nat)(lb:Array Value)(R:Nat->Array Value->Prop)(fini:Nat->Prop)(N:Nat)(Keep:Nat->World->Prop):Prop :=
 ∀(l:Nat) (J Jx:Nat->World->Prop) (W:World),
  l<W.heap.size ->
  (∀k A,J k A->Keep k A) ->
  (∀k A B row,J k A->A.grownBy B row ->(∀r,row=some r->W.heap.size<=r)->J k B) ->
  (∀k v A,k<=N->R k v->J k A->YieldAt F (n-1) P l v A fun e B =>
   (e=.returned (.bool true)/\k<N/\Ch (l+1) A B/\J (k+1) B) \/(e=.returned (.bool false)/\Jx k B)) ->
  J 0 W ->
  CallsIn F n P g (#[.func (.yield l) #[] #[]]++lb) W fun e B=>(∃v,e=.returned v) /\((∃k,k<=N/\Jx k B) \/(∃k,k<=N/\fini k/\J k B))
variable {F : Fence} {n : Nat} {P : Program}
theorem A6m {g:Operand}{ps:Array Tmp}{assign body:Code}{Q:Exit->Act->World->Prop}{a:Act}{w:World}
 (hro:F.round=none) (h1:1<=n) {gf:Nat} {lb:Array Value} (hg:a.eval g=.func (.func gf) #[] lb) (hFg:F.fn gf) (eg:∀args w,(callFunc gf args).run P w=.ok (.enter gf args) w)
 {R:Nat->Array Value->Prop} {fini:Nat->Prop} {N:Nat} {Keep:Nat->World->Prop} (hseq:Aar F (n-1) P gf lb R fini N Keep) (hps:∀k v,R k v->v.size=ps.size)
 (I:Nat->World->Prop) (Ix:Code->Nat->World->Prop) (hI:Yt w.heap.size I) (hIx:∀c,OwnFrom w.heap.size (Ix c)) (hIb:∀k A,I k A->Keep k A) (hi0:I 0 w) (RA:Nat->Array Value->Act->World->Prop) (hRA:∀v a₁,OwnFrom w.heap.size (fun k W=>RA k v a₁ W))
 (hassign:∀(l k:Nat) (v:Array Value) (W:World) (K:Act->World->Prop),k<=N->R k v->I k W ->(∀a₁ W₁,Ch w.heap.size W W₁->RA k v a₁ W₁->K a₁ W₁) ->
  assign.wpIn (F.inRound l) (n-1-1) P (Exit.then K (fun _ _ _=>False)) { tmps:=(ps.zip v).foldl (fun t (p,v)=>t.setIfInBounds p v) a.tmps,defers:=[] } W)
 (hbody:∀(l k:Nat) (v:Array Value) (a₁:Act) (W:World),k<=N->R k v->RA k v a₁ W->body.wpIn (F.inRound l) (n-1-1) P (A96 w.heap.size N I Ix k W) a₁ W)
 (hdone:∀(D k:Nat) (W:World),w.heap.size<=D->k<=N->fini k->I k W->W.heap[D]?=some (.deferred (some []))->Q .normal { a with defers:={ target:=.collected D,args:=#[] } :: a.defers } W)
 (hstop:∀(D:Nat) (c:Code) (k:Nat) (W:World),w.heap.size<=D->k<=N->Ix c k W->W.heap[D]?=some (.deferred (some []))->c.wpIn F n P Q { a with defers:={ target:=.collected D,args:=#[] } :: a.defers } W) :
 (Code.rangeFunc g ps assign body).wpIn F n P Q a w:=by
 have hIA:=hI;replace hI:=hI.from
 refine wpIn_rangeFunc (fun fn hfn=>?_)
 rw[hro];obtain⟨s,hs⟩:∃s,w.heap.size=s:=⟨_,rfl⟩;obtain⟨W1,hW1⟩:∃W1,(w.alloc (.deferred (some []))).alloc (.loop (Bg fn a.tmps ps assign body s .ready none))=W1:=⟨_,rfl⟩
 have hg1:w.grownBy W1 none:=by
  rw[<-hW1];exact(Ar7 w _ none).trans (Ar7 _ _ none)
 have hL1:W1.heap[s+1]?=some (.loop (Bg fn a.tmps ps assign body s .ready none)):=by
  rw[<-hW1,<-hs];have:=World.alloc_heap_new (w.alloc (.deferred (some []))) (.loop (Bg fn a.tmps ps assign body w.heap.size .ready none))
  rwa [Apl]at this
 have hD1:W1.heap[s]?=some (.deferred (some [])):=by
  rw[<-hW1,<-hs];exact(Ati _ _ _ (by simp)).trans (World.alloc_heap_new w _)
 have hI1:I 0 W1:=hI 0 w W1 none hi0 hg1 (fun r e=>by cases e)
 rw[hs]at hI hIA hIx hRA hassign hbody hdone hstop
 refine⟨s+1,[{ target:=.collected s,args:=#[] }],W1,{ target:=.fn (.func gf) lb,args:=#[.func (.yield (s+1)) #[] #[]] },W1,gf,
  #[.func (.yield (s+1)) #[] #[]]++lb,W1,?_,?_,?_,?_,fun _=>h1,?_⟩
 ·rw[<-hW1,<-hs];exact run_enterLoop_outer _ _ _ _ _
 ·simp only[resolve,hg];simp[go_sem]
 ·intro f' hf';simp[Target.leads]at hf';subst hf';exact hFg
 ·simp[invoke,go_sem,eg]
 ·refine(hseq (s+1)
   (fun k W=>I k W/\W.heap[s+1]?=some (.loop (Bg fn a.tmps ps assign body s .ready none))/\W.heap[s]?=some (.deferred (some [])))
   (fun k W=>∃c,Ix c k W/\W.heap[s+1]?=some (.loop (Bg fn a.tmps ps assign body s .done (some c)))/\W.heap[s]?=some (.deferred (some [])))
   W1 (Aoz.1 hL1).1 (fun k A h=>hIb k A h.1) ?_ ?_ ⟨hI1,hL1,hD1⟩).mono ?_
  ·rintro k A B row ⟨hi,hl,hd⟩ hgr hrow;have hW1:s+1<W1.heap.size:=(Aoz.1 hL1).1;have hne:∀j,j<=s+1->some j≠row:=fun j hj e=>by have:=hrow j e.symm;omega
   exact⟨hIA k A B row hi hgr (fun r e=>by have:=hrow r e;omega),(hgr.block _ (Aoz.1 hl).1 (hne _ (Ap0 _))).trans hl,(hgr.block _ (Aoz.1 hd).1 (hne _ (by omega))).trans hd⟩
  ·
   rintro k v A hk hR ⟨hi,hl,hd⟩;have hlt0:s+1<A.heap.size:=(Aoz.1 hl).1
   refine⟨fn,_,assign,body,run_yield (P:=P) (args:=v) hl (hps k v hR),roundIn_of_wpIn hfn (hassign _ k v A _ hk hR hi fun a₁ A1 hal hRA1=>?_)⟩
   have hl1:=(hal.blk _ (by omega) hlt0).trans hl
   have hd1:=(hal.blk _ (Ap0 _) (by omega)).trans hd
   have hlt:s+1<A1.heap.size:=Ap6 hlt0 hal.size
   refine⟨_,run_beginRound hl1 rfl,?_⟩
   obtain⟨A2,hA2⟩:∃A2,A1.putObj (s+1) (.loop { Bg fn a.tmps ps assign body s .ready none with state:=.busy })=A2:=⟨_,rfl⟩
   have hl2:A2.heap[s+1]?=some (.loop { Bg fn a.tmps ps assign body s .ready none with state:=.busy }):=by rw[<-hA2];exact World.putObj_heap_same hlt
   have hd2:A2.heap[s]?=some (.deferred (some [])):=by rw[<-hA2];exact(World.putObj_heap_other (by omega)).trans hd1
   have hlo:Ch (s+1+1) A A2:=(hal.up (by omega)).trans (by rw[<-hA2];exact Ch.grown (grownBy_putObj' A1 (s+1) _) (fun r e=>by cases e;omega))
   have hi2:RA k v a₁ A2:=by rw[<-hA2];exact(hRA v a₁).putObj _ hRA1 (by omega) hl1 rfl
   rw[hA2]
   refine wpIn_mono (hbody (s+1) k v a₁ A2 hk hR hi2) ?_
   have ends:∀(jump:Option Code) (B:World),KeepsFrom s A2 B->B.heap[s+1]?=some (.loop { Bg fn a.tmps ps assign body s .ready none with state:=.busy }) /\
    (Instr.endRound (s+1) jump).run P B=.ok (.bool jump.isNone) (B.putObj (s+1) (.loop (Bg fn a.tmps ps assign body s (if jump.isNone then .ready else .done) jump))) /\
    (B.putObj (s+1) (.loop (Bg fn a.tmps ps assign body s (if jump.isNone then .ready else .done) jump))).heap[s+1]?=some (.loop (Bg fn a.tmps ps assign body s (if jump.isNone then .ready else .done) jump)) /\
    (B.putObj (s+1) (.loop (Bg fn a.tmps ps assign body s (if jump.isNone then .ready else .done) jump))).heap[s]?=some (.deferred (some [])):=by
    intro jump B hk3;have hl3:=hk3.same _ _ (by omega) hl2 rfl
    exact⟨hl3,run_endRound (P:=P) jump hl3,World.putObj_heap_same (Aoz.1 hl3).1,(World.putObj_heap_other (by omega)).trans (hk3.same _ _ (Ap0 _) hd2 rfl)⟩
   intro e a3 B hp
   cases e with
   | normal =>
     obtain⟨hk3,hkN,hi3⟩:=hp;obtain⟨hl3,hr,hl4,hd4⟩:=ends none B hk3.keeps
     exact⟨_,_,hr,.inl ⟨rfl,hkN,(hlo.trans (hk3.up (by omega))).trans (Ch.grown (grownBy_putObj' B (s+1) _) (fun r e=>by cases e;omega)),hI.putObj _ hi3 (by omega) hl3 rfl,hl4,hd4⟩⟩
   | ret =>
     obtain⟨hk3,hi3⟩:=hp;obtain⟨hl3,hr,hl4,hd4⟩:=ends (some .ret) B hk3.keeps
     exact⟨_,_,hr,.inr ⟨rfl,.ret,(hIx _).putObj _ hi3 (by omega) hl3 rfl,hl4,hd4⟩⟩
   | exit id =>
     obtain⟨hk3,hi3⟩:=hp;obtain⟨hl3,hr,hl4,hd4⟩:=ends (some (.exit id)) B hk3.keeps
     exact⟨_,_,hr,.inr ⟨rfl,.exit id,(hIx _).putObj _ hi3 (by omega) hl3 rfl,hl4,hd4⟩⟩
   | goto t =>
     obtain⟨hk3,hi3⟩:=hp;obtain⟨hl3,hr,hl4,hd4⟩:=ends (some (.goto t)) B hk3.keeps
     exact⟨_,_,hr,.inr ⟨rfl,.goto t,(hIx _).putObj _ hi3 (by omega) hl3 rfl,hl4,hd4⟩⟩
   | panic ch=>exact hp.elim
   | outgrown=>exact hp.elim
  ·
   rintro e B ⟨⟨v,rfl⟩,(⟨k,hkN,c,hi,hl,hd⟩ |⟨k,hkN,hf,hi,hl,hd⟩)⟩
   ·exact⟨some c,_,run_endLoop (P:=P) hl (by simp[Bg]),hstop _ c k _ (Ap0 _) hkN ((hIx c).putObj _ hi (by omega) hl rfl) ((World.putObj_heap_other (by omega)).trans hd)⟩
   ·exact⟨none,_,run_endLoop (P:=P) hl (by simp[Bg]),hdone _ k _ (Ap0 _) hkN hf (hI.putObj _ hi (by omega) hl rfl) ((World.putObj_heap_other (by omega)).trans hd)⟩
end
section
open Go.RowKit Flo
attribute [local go_sem] Oper.semAt_some
theorem A0c (P:Program)(w:World)(a:Addr)(m:Mode)(k:FloatKind)(b:Nat):(store a (.float k b) m).run P w=stored P w a (.float k b) m:=run_store P w a _ m rfl
attribute [local go_sem] A0c
theorem Au.grown {a b:World}(h:Au a b){row:Option Nat}:a.grownBy b row:=by
 obtain⟨n,rfl⟩:=h
 exact⟨rfl,rfl,rfl,Ap0 _,fun _ _ _=>rfl⟩
theorem Uo (n:Int)(w:World):Calls Vp.prog 109 #[.int .i64 n] w fun e w'=>e=.returned (.int .i64 (Be n))/\w=w':=by
 go_enter Vp.func109,Tryz.ntmps109
 go_wp2
 all_goals
  go_ret
  exact⟨Mp (by unfold Be;omega),rfl⟩
theorem Nu (c d g:Nat)(w:World):Calls Vp.prog 112 #[.complex .f32 c d,.func (.func g) #[] #[]] w fun e w'=>e=.returned (.func (.func 132) #[] #[.pointer (some ⟨w.heap.size+1,0,none⟩),.pointer (some ⟨w.heap.size,0,none⟩)]) /\(w.alloc (.cells #[.complex .f32 c d] 23)).alloc (.cells #[.func (.func g) #[] #[]] 135)=w':=by
 go_enter Vp.func112,Tryz.ntmps112
 go_wp2
 go_ret
 exact⟨rfl,rfl⟩
structure Aje (Bc:Nat)(c d:Nat)(k:Nat)(A:World):Prop where
 num:A.heap[Bc]?=some (.cells #[.complex .f32 c d] 23 (0,0))
 stp:A.heap[Bc+1]?=some (.cells #[.func (.func 81) #[] #[]] 135 (0,0))
 ok:∀j,j<k->Rj c d j=true
def Alg (c d:Nat)(k:Nat)(v:Array Value):Prop:=∃x y:Nat,v=#[.int .i64 k,.complex .f32 x y]/\x<4294967296/\y<4294967296/\Al .f32 (F0 c d k).1 x/\Al .f32 (F0 c d k).2 y
theorem A5i (n c d Bc N:Nat)(hn:1<=n)(hN:N<=1048576) :
 Aas Fence.wide n Vp.prog 132 #[.pointer (some ⟨Bc+1,0,none⟩),.pointer (some ⟨Bc,0,none⟩)] (Alg c d) (fun _=>False) N (Aje Bc c d):=by
 intro l J Jx W hJb hJg hY hJ0
 refine callsIn_of_wp Vp.func132 rfl trivial ?_ rfl
 simp only[Tryz.ntmps132,Asx,Aqx,Aun,Nat.reduceAdd,Nat.reduceSub,Aus,Aur,List.push_toArray,Auw,Asd,Ars]
 gi_wp2
 gi_loopw [4,5] (fun z i wr=>∃k x y:Nat,k<=N/\i=.int .i64 k/\z=.complex .f32 x y/\x<4294967296/\y<4294967296/\Hid (Al .f32 (F0 c d k).1 x/\Al .f32 (F0 c d k).2 y)/\J k wr) (fun _ i _=>(N+1-intOf i).toNat)
 case atStart=>exact⟨0,0,0,Aq1 _,rfl,rfl,by omega,by omega,⟨Al.refl _ _,Al.refl _ _⟩,hJ0⟩
 case round =>
  obtain⟨k,x,y,hk,rfl,rfl,hx,hy,HA,hJ⟩:=hrel;obtain⟨fn,tmps,assign,body,hy',hR⟩:=hY k _ wr hk ⟨x,y,rfl,hx,hy,HA.out.1,HA.out.2⟩ hJ
  gi_wp2
  refine hR.mono ?_
  rintro e W3 (⟨rfl,hkN,hJ3⟩ |⟨rfl,hJx⟩)
  ·have K:=hJb _ _ hJ3;have c0:W3.cell? ⟨Bc,0,none⟩=some (.complex .f32 c d):=by rw[Lib.cell_of_heap K.num];rfl
   have c1:W3.cell? ⟨Bc+1,0,none⟩=some (.func (.func 81) #[] #[]):=by rw[Lib.cell_of_heap K.stp];rfl
   have ho:=K.ok k (by omega)
   unfold Rj at ho;have e1:=Al.same HA.out.1 (Rv (Oi ho));have e2:=Al.same HA.out.2 (Rv (Mg ho));have HP:Hid ((x,y)=F0 c d k):=by show _=_;rw[e1,e2]
   rw[<-e1,<-e2]at ho;have HO:=Aoy ho;clear ho e1 e2 HA K
   gi_wp2_with (refine⟨trivial,?_⟩;gi_at_call 81;refine(Ar0.2 (Zn x y c d hx hy HO.out _)).mono ?_;rintro e W4 ⟨⟨a,b,rfl,ha,hb,aa,ab⟩,hd⟩;have HQ:Hid (Al .f32 (F0 c d (k+1)).1 a/\Al .f32 (F0 c d (k+1)).2 b):=(by rw[HP.out]at aa ab;exact⟨aa,ab⟩);have HJ4:=Aoy (hJg (k+1) W3 W4 hJ3 hd.grown);clear aa ab hd)
   go_roundw
   case rel=>exact⟨k+1,a,b,by omega,by go_num,rfl,ha,hb,HQ,HJ4.out⟩
   case measure=>simp[intOf];omega
  ·gi_wp2
   go_end0
   exact⟨⟨_,rfl⟩,.inl ⟨k,hk,hJx⟩⟩
theorem J1 {W W':World}{row:Option Nat}{k:Nat}{o:Obj}(hk:W.heap[k]?=some o)(ho:o.isCells=true)(hg:W.grownBy W' row)(hr:∀r,row=some r->∃o:Obj,W.heap[r]?=some o/\o.isCells=false):W'.heap[k]?=some o:=by
 refine(hg.block k (Aoz.1 hk).1 (fun e=>?_)).trans hk
 obtain⟨o',h1,h2⟩:=hr k e.symm;rw[hk]at h1
 cases h1
 rw[ho]at h2
 cases h2
def Ale (c d:Nat)(n:Int)(w:World)(e:Ending)(w':World):Prop :=
 (∃(k:Int) (nm:Nat),e=.returned (.tuple #[.int .i64 k,.float .f64 nm])/\It (Rj c d) (Be n) k/\nm<18446744073709551616 /\(0<=k->Al .f64 (Cr (Aa (F0 c d k.toNat).1) (Aa (F0 c d k.toNat).2)) nm))/\Below w.heap.size w w'
structure Fw (w:World)(c d M k:Nat)(W:World):Prop where
 r0:W.heap[w.heap.size]?=some (.cells #[.int .i64 0] 3 (0,0))
 r1:W.heap[w.heap.size+1]?=some (.cells #[.float .f64 0] 129 (0,0))
 las:W.heap[w.heap.size+1+1]?=some (.cells #[.int .i64 M] 3 (0,0))
 S6:Aje (w.heap.size+1+1+1) c d k W
 old:Below w.heap.size w W
theorem Fw.own {w:World}{c d M B:Nat}(hB:w.heap.size<=B):OwnFrom B (Fw w c d M):=by
 intro k W W' row h hg hr;have hr':∀r,row=some r->∃o:Obj,W.heap[r]?=some o/\o.isCells=false:=fun r e=>(hr r e).2
 exact⟨J1 h.r0 rfl hg hr',J1 h.r1 rfl hg hr',J1 h.las rfl hg hr',⟨J1 h.S6.num rfl hg hr',J1 h.S6.stp rfl hg hr',h.S6.ok⟩,h.old.grown hg h.old.size (fun j e=>Ap3 hB (hr j e).1)⟩
structure Rp (w:World)(c d M k:Nat)(W:World):Prop where
 ex:∃nm:Nat,W.heap[w.heap.size]?=some (.cells #[.int .i64 k] 3 (0,0))/\W.heap[w.heap.size+1]?=some (.cells #[.float .f64 nm] 129 (0,0))/\nm<18446744073709551616/\Al .f64 (Cr (Aa (F0 c d k).1) (Aa (F0 c d k).2)) nm
 no:Rj c d k=false
 ok:∀j,j<k->Rj c d j=true
 le:k<=M
 old:Below w.heap.size w W
theorem Rp.own {w:World}{c d M B:Nat}(hB:w.heap.size<=B):OwnFrom B (Rp w c d M):=by
 intro k W W' row h hg hr;have hr':∀r,row=some r->∃o:Obj,W.heap[r]?=some o/\o.isCells=false:=fun r e=>(hr r e).2
 obtain⟨⟨nm,a,b,e⟩,h1,h2,h3,h4⟩:=h
 exact⟨⟨nm,J1 a rfl hg hr',J1 b rfl hg hr',e⟩,h1,h2,h3,h4.grown hg h4.size (fun j e=>Ap3 hB (hr j e).1)⟩
theorem Fw.start (w:World)(c d M:Nat):Fw w c d M 0 (((((w.alloc (.cells #[.int .i64 0] 3)).alloc (.cells #[.float .f64 0] 129)).alloc (.cells #[.int .i64 M] 3)).alloc (.cells #[.complex .f32 c d] 23)).alloc (.cells #[.func (.func 81) #[] #[]] 135)):=by
 have new:∀(W:World) (C:Array Value) (t:TypeId),(W.alloc (.cells C t)).heap[W.heap.size]?=some (.cells C t (0,0)):=fun W C t=>World.alloc_heap_new W _
 have Oh:∀(W:World) (C:Array Value) (t:TypeId) (k:Nat) (o:Obj),W.heap[k]?=some o ->(W.alloc (.cells C t)).heap[k]?=some o:=fun W C t k o h=>(Ati W _ k (Aoz.1 h).1).trans h
 have n0:=new w #[.int .i64 0] 3;have n1:=new (w.alloc (.cells #[.int .i64 0] 3)) #[.float .f64 0] 129;have n2:=new ((w.alloc (.cells #[.int .i64 0] 3)).alloc (.cells #[.float .f64 0] 129)) #[.int .i64 M] 3;have n3:=new (((w.alloc (.cells #[.int .i64 0] 3)).alloc (.cells #[.float .f64 0] 129)).alloc (.cells #[.int .i64 M] 3)) #[.complex .f32 c d] 23;have n4:=new ((((w.alloc (.cells #[.int .i64 0] 3)).alloc (.cells #[.float .f64 0] 129)).alloc (.cells #[.int .i64 M] 3)).alloc (.cells #[.complex .f32 c d] 23)) #[.func (.func 81) #[] #[]] 135;simp only[Apl]at n1 n2 n3 n4
 refine⟨Oh _ _ _ _ _ (Oh _ _ _ _ _ (Oh _ _ _ _ _ (Oh _ _ _ _ _ n0))),Oh _ _ _ _ _ (Oh _ _ _ _ _ (Oh _ _ _ _ _ n1)),Oh _ _ _ _ _ (Oh _ _ _ _ _ n2),⟨Oh _ _ _ _ _ n3,n4,fun j hj=>by omega⟩,?_⟩
 exact(((((Aph _ w).alloc (Ap0 _) _).alloc (by simp) _).alloc (by simp;omega) _).alloc (by simp;omega) _).alloc (by simp;omega) _
def Wg (w:World)(c d M:Nat)(cd:Code)(k:Nat)(W:World):Prop:=(cd=Code.exit 0/\k=M+1/\Fw w c d M k W) \/(cd=Code.ret/\Rp w c d M k W)
theorem Wg.own {w:World}{c d M B:Nat}(hB:w.heap.size<=B)(cd:Code):OwnFrom B (Wg w c d M cd):=by
 intro k W W' row h hg hr
 rcases h with⟨h1,h2,h3⟩ |⟨h1,h3⟩
 ·exact .inl ⟨h1,h2,Fw.own hB k W W' row h3 hg hr⟩
 ·exact .inr ⟨h1,Rp.own hB k W W' row h3 hg hr⟩
theorem Af4 (c d:Nat)(n:Int)(w:World):Calls Vp.prog 80 #[.complex .f32 c d,.int .i64 n,.func (.func 81) #[] #[]] w (Ale c d n w):=by
 obtain⟨M,hM,hM4⟩:∃M:Nat,Be n=M/\M<=400:=by
  have:=Jn n
  exact⟨(Be n).toNat,by omega,by omega⟩
 have HS:=Aoy (Uo n);rw[hM]at HS;have H0:=Aoy (Fw.start w c d M);have HM:=Aoy hM;clear hM
 refine(Ar0 (n:=3)).1 ?_
 refine callsIn_of_wp_marks Vp.func80 rfl trivial ?_ rfl
 simp only[Tryz.ntmps80,Asx,Aqx,Aun,Nat.reduceAdd,Nat.reduceSub,Aus,Aur,List.push_toArray,Auw,Asd,Ars]
 gi_wp2_with (first |(refine⟨trivial,?_⟩;gi_at_call 109;refine(Ar0.2 (HS.out _)).mono ?_;rintro e w1 ⟨rfl,rfl⟩) |(refine⟨trivial,?_⟩;gi_at_call 112;refine(Ar0.2 (Nu _ _ _ _)).mono ?_;rintro e w1 ⟨rfl,rfl⟩))
 refine A6o ?_
 gi_wp2_with (first |(refine⟨trivial,?_⟩;gi_at_call 109;refine(Ar0.2 (HS.out _)).mono ?_;rintro e w1 ⟨rfl,rfl⟩) |(refine⟨trivial,?_⟩;gi_at_call 112;refine(Ar0.2 (Nu _ _ _ _)).mono ?_;rintro e w1 ⟨rfl,rfl⟩))
 refine wpIn_label ?_
 gi_wp2_with (first |(refine⟨trivial,?_⟩;gi_at_call 109;refine(Ar0.2 (HS.out _)).mono ?_;rintro e w1 ⟨rfl,rfl⟩) |(refine⟨trivial,?_⟩;gi_at_call 112;refine(Ar0.2 (Nu _ _ _ _)).mono ?_;rintro e w1 ⟨rfl,rfl⟩))
 refine A6n rfl (by decide) (gf:=132) (lb:=#[.pointer (some ⟨w.heap.size+1+1+1+1,0,none⟩),.pointer (some ⟨w.heap.size+1+1+1,0,none⟩)]) ?g0 trivial (enters_of Vp.func132 (by kernel_rfl) rfl)
  (A5i _ c d (w.heap.size+1+1+1) (M+1) (by decide) (by omega)) (fun k v h=>by obtain⟨x,y,rfl,-⟩:=h;rfl) (Fw w c d M) (Wg w c d M)
  (Fw.own (by simp;omega)) (Wg.own (by simp;omega)) (fun k A h=>h.S6) H0.out
  (fun k v=>{ tmps:=#[.complex .f32 c d,.int .i64 n,.func (.func 81) #[] #[],undef,undef,undef,.pointer (some ⟨w.heap.size,0,none⟩),.pointer (some ⟨w.heap.size+1,0,none⟩),.pointer (some ⟨w.heap.size+1+1,0,none⟩),v.getD 0 undef,v.getD 1 undef,undef,.int .i64 n,.int .i64 M,.complex .f32 c d,.func (.func 81) #[] #[],
   .func (.func 132) #[] #[.pointer (some ⟨w.heap.size+1+1+1+1,0,none⟩),.pointer (some ⟨w.heap.size+1+1+1,0,none⟩)],v.getD 0 undef,v.getD 1 undef,undef,undef,undef,undef,undef,undef,undef,undef,undef,undef,undef],defers:=[] })
  ?assign ?body ?done ?stop
 case g0=>rfl
 case assign =>
  rintro l k v W K ⟨x,y,rfl,-⟩ hK
  gi_wp2
  exact hK
 case body =>
  rintro l k v W hk ⟨x,y,rfl,hx,hy,ax,ay⟩ h;have c0:W.cell? ⟨w.heap.size+1+1,0,none⟩=some (.int .i64 M):=by rw[Lib.cell_of_heap h.las];rfl
  by_cases hkm:k=M+1
  ·subst hkm;have HX:Hid (Wg w c d M (Code.exit 0) (M+1) W):=.inl ⟨rfl,rfl,h⟩;clear h ax ay
   gi_wp2
   exact⟨KeepsFrom.refl _ _,HX.out⟩
  ·have hkM:k<=M:=by omega
   have HH:=Aoy h;have HAX:=Aoy ax;have HAY:=Aoy ay;have hk1:((k:Int)<=M):=by omega
   clear h ax ay hkm
   gi_wp2_with fail
   refine⟨trivial,?_⟩
   refine(CallsIn.inRound l (Ar0.2 (Qm x y hx hy W))).mono ?_
   rintro e W2 ⟨⟨p,q,rfl,-,-,ap,aq⟩,hd⟩;have HP:=Aoy (Tz ap aq);have HD:=Aoy hd;clear ap aq hd
   gi_wp2_with fail
   refine⟨trivial,?_⟩
   refine(CallsIn.inRound l (Ar0.2 (A29 p q W2))).mono ?_
   rintro e W3 ⟨⟨m,rfl,hm,am⟩,hd⟩;have HD3:=Aoy (HD.out.trans hd)
   have HN:Hid (Al .f64 (Cr (Aa (F0 c d k).1) (Aa (F0 c d k).2)) m):=by
    show Al _ _ _
    rw[Mx HAX.out,Mx HAY.out,HP.out];exact am
   clear am hd HD;have I3:=Fw.own (c:=c) (d:=d) (M:=M) (Ap0 _) k W W3 none HH.out HD3.out.grown (fun r e=>by cases e)
   have HK:Hid (Ts m=Rj c d k):=by
    show _=_
    unfold Rj
    exact(Acf HN.out).symm
   have hb:=HK.out;unfold Ts at hb
   have HKF:Hid (∀W' B,w.heap.size+1<B ->(∀j,j≠w.heap.size->j≠w.heap.size+1->W3.heap[j]?=W'.heap[j]?)->W3.heap.size<=W'.heap.size->KeepsFrom B W W'):=fun W' B hB h1 h2=>by
    have hh:=HD3.out.heap
    refine⟨by rw[<-hh];exact h2,fun j o hj ho _=>?_⟩
    rw[<-h1 j (by omega) (by omega),hh];exact ho
   cases ho:Rj c d k with
   | false =>
     rw[ho]at hb;have B0:A9 w w.heap.size #[.int .i64 0] 3 W3:=⟨I3.r0,I3.old⟩;have B1:A9 w (w.heap.size+1) #[.float .f64 0] 129 W3:=⟨I3.r1,I3.old⟩;have c0:=B0.cell 0 _ rfl;have f0:=B0.frozen 0;have c1:=B1.cell 0 _ rfl;have f1:=B1.frozen 0;have D0:=(B0.set (Ap0 _) 0 (.int .i64 k)).other (p:=⟨w.heap.size+1,0,none⟩) (by simp) (by simp) (.float .f64 m)
     have D1:=(B1.other (p:=⟨w.heap.size,0,none⟩) (by simp) (by simp) (.int .i64 k)).set (by simp) 0 (.float .f64 m)
     have HX:Hid (Wg w c d M Code.ret k ((W3.setCell ⟨w.heap.size,0,none⟩ (.int .i64 k)).setCell ⟨w.heap.size+1,0,none⟩ (.float .f64 m))):=.inr ⟨rfl,⟨⟨m,D0.blk,D1.blk,hm,HN.out⟩,ho,I3.S6.ok,hkM,D1.old⟩⟩;have HKK:Hid (∀B,w.heap.size+1<B->KeepsFrom B W ((W3.setCell ⟨w.heap.size,0,none⟩ (.int .i64 k)).setCell ⟨w.heap.size+1,0,none⟩ (.float .f64 m))):=fun B hB=>HKF.out _ B hB (fun j h1 h2=>((Aqv _ _ _ _ (by simpa using h2)).trans (Aqv _ _ _ _ (by simpa using h1))).symm) (by simp)
     have hlt1:=B1.lt;clear ho HK HH I3 B0 B1 D0 D1 HKF
     gi_wp2
     exact⟨HKK.out _ (by simp),HX.out⟩
   | true =>
     rw[ho]at hb
     have HI:Hid (Fw w c d M (k+1) W3):=⟨I3.r0,I3.r1,I3.las,⟨I3.S6.num,I3.S6.stp,fun j hj=>by
      by_cases e:j=k
      ·rw[e];exact ho
      ·exact I3.S6.ok j (by omega)⟩,I3.old⟩
     have HKK:=Aoy (fun B (hB:w.heap.size+1<B)=>HKF.out W3 B hB (fun _ _ _=>rfl) (Ap0 _))
     clear ho HK HH I3 HKF
     gi_wp2
     exact⟨HKK.out _ (by simp),by omega,HI.out⟩
 case done =>
  intro D k W hD hk hf
  exact hf.elim
 case stop =>
  rintro D cd k W hD hk h hdef
  rcases h with⟨rfl,rfl,h⟩ |⟨rfl,h⟩
  ·have B0:A9 w w.heap.size #[.int .i64 0] 3 W:=⟨h.r0,h.old⟩;have B1:A9 w (w.heap.size+1) #[.float .f64 0] 129 W:=⟨h.r1,h.old⟩;have c0:=B0.cell 0 _ rfl;have f0:=B0.frozen 0;have c1:=B1.cell 0 _ rfl;have f1:=B1.frozen 0;have hlt1:=B1.lt;have D0:=(B0.set (Ap0 _) 0 (.int .i64 (-1))).other (p:=⟨w.heap.size+1,0,none⟩) (by simp) (by simp) (.float .f64 0)
   have D1:=(B1.other (p:=⟨w.heap.size,0,none⟩) (by simp) (by simp) (.int .i64 (-1))).set (by simp) 0 (.float .f64 0)
   have HD0:=Aoy D0;have HD1:=Aoy D1;have HO:=Aoy h.S6.ok;clear h B0 B1 D0 D1
   gi_wp2
   rw[Exit.noGoto_ret];have hDlt:w.heap.size+1<D:=by simp at hD;omega
   have hdef':((W.setCell ⟨w.heap.size,0,none⟩ (.int .i64 (-1))).setCell ⟨w.heap.size+1,0,none⟩ (.float .f64 0)).heap[D]?=some (.deferred (some [])):=((Aqv _ _ _ _ (by simp;omega)).trans (Aqv _ _ _ _ (by simp;omega))).trans hdef
   have z0:(((W.setCell ⟨w.heap.size,0,none⟩ (.int .i64 (-1))).setCell ⟨w.heap.size+1,0,none⟩ (.float .f64 0)).putObj D (.deferred none)).cell? ⟨w.heap.size,0,none⟩=some (.int .i64 (-1)):=(World.cell?_of_block (World.putObj_heap_other (by simp;omega))).trans (HD0.out.cell 0 _ rfl)
   have z1:(((W.setCell ⟨w.heap.size,0,none⟩ (.int .i64 (-1))).setCell ⟨w.heap.size+1,0,none⟩ (.float .f64 0)).putObj D (.deferred none)).cell? ⟨w.heap.size+1,0,none⟩=some (.float .f64 0):=(World.cell?_of_block (World.putObj_heap_other (by simp;omega))).trans (HD1.out.cell 0 _ rfl)
   refine⟨by simp,.inl ⟨_,_,rfl,run_takeDeferred hdef',?_⟩⟩
   refine⟨.tuple #[.int .i64 (-1),.float .f64 0],by simp[results,Tryz.f80,go_sem,z0,z1],?_⟩
   refine⟨⟨-1,0,rfl,.inr ⟨rfl,fun j hj=>HO.out j (by have:=HM.out;omega)⟩,by omega,fun h=>by omega⟩,?_⟩
   exact HD1.out.old.grown (grownBy_putObj' _ D _) (by have:=HD1.out.old.size;exact this) (fun j e=>by cases e;omega)
  ·obtain⟨⟨nm,b0,b1,hnm,hal⟩,hno,hok,hle,hold⟩:=h;have HB0:Hid (A9 w w.heap.size #[.int .i64 k] 3 W):=⟨b0,hold⟩;have HB1:Hid (A9 w (w.heap.size+1) #[.float .f64 nm] 129 W):=⟨b1,hold⟩;have HE:Hid (It (Rj c d) (Be n) k):=.inl ⟨k,rfl,by have:=HM.out;omega,hno,hok⟩
   have HA:=Aoy hal;clear b0 b1 hold hal hno hok
   gi_wp2
   rw[Exit.noGoto_ret];have hDlt:w.heap.size+1<D:=by simp at hD;omega
   have z0:(W.putObj D (.deferred none)).cell? ⟨w.heap.size,0,none⟩=some (.int .i64 k):=(World.cell?_of_block (World.putObj_heap_other (by simp;omega))).trans (HB0.out.cell 0 _ rfl)
   have z1:(W.putObj D (.deferred none)).cell? ⟨w.heap.size+1,0,none⟩=some (.float .f64 nm):=(World.cell?_of_block (World.putObj_heap_other (by simp;omega))).trans (HB1.out.cell 0 _ rfl)
   refine⟨by simp,.inl ⟨_,_,rfl,run_takeDeferred hdef,?_⟩⟩
   refine⟨.tuple #[.int .i64 k,.float .f64 nm],by simp[results,Tryz.f80,go_sem,z0,z1],?_⟩
   refine⟨⟨k,nm,rfl,HE.out,hnm,fun _=>by rw[Aqk];exact HA.out⟩,?_⟩
   exact HB1.out.old.grown (grownBy_putObj' _ D _) HB1.out.old.size (fun j e=>by cases e;omega)
def A1s (ok:Nat->Bool)(M:Nat):Int:=match (List.range (M+1)).find? (fun k=>!ok k)with|some k=>k|none=>-1
theorem Af3 (ok:Nat->Bool)(M:Nat):It ok M (A1s ok M):=by
 unfold A1s
 cases h:(List.range (M+1)).find? (fun k=>!ok k)with
 | none =>
   refine .inr ⟨rfl,fun j hj=>?_⟩
   have:=(List.find?_eq_none.1 h) j (Atn.2 (by omega))
   simpa using this
 | some k =>
   have h1:=List.mem_of_find?_eq_some h;have h2:=List.find?_some h;rw[Atn]at h1
   refine .inl ⟨k,rfl,by omega,by simpa using h2,fun j hj=>?_⟩
   obtain⟨_,us,vs,hab,hall⟩:=List.find?_eq_some_iff_append.1 h
   have hl:us.length=k:=by
    have h3:(List.range (M+1))[us.length]?=some k:=by rw[hab];simp
    rw[Atz (by
     have:=congrArg List.length hab;simp at this
     omega)]at h3
    injection h3
   have h4:j∈us:=by
    have h5:(List.range (M+1))[j]?=some j:=Atz (by omega)
    rw[hab,Ar4 (by omega)]at h5
    exact Aq7 h5
   simpa using hall j h4
theorem It.num {ok:Nat->Bool}{M:Nat}{r:Int}(h:It ok M r):r=A1s ok M:=h.eq (Af3 ok M)
theorem It.A4 {ok:Nat->Bool}{n r:Int}(h:It ok (Be n) r):r=A1s ok (Be n).toNat:=by
 have hb:=Jn n;have e:Be n=((Be n).toNat:Nat):=by omega
 rw[e]at h
 exact h.num
end
section
open Go.RowKit
theorem Aia {x z:Bx}{k:Nat}{p q r s p2 q2 r2 s2:Int}(h1:Dx x k=some z)(h:z.sq=⟨p,q,r,s⟩)(g:(⟨p+x.a,q+x.b,r+x.c,s+x.d⟩:Bx)=⟨p2,q2,r2,s2⟩)(o1:Bl p q r s=true)(o2:Bl p2 q2 r2 s2=true) :
 Dx x (k+1)=some ⟨p2,q2,r2,s2⟩:=by
 show(Dx x k).bind _=_
 rw[h1]
 show Bx.next x z=_
 unfold Bx.next;rw[h,Apb (show Bx.ok ⟨p,q,r,s⟩=true from o1),show Bx.add ⟨p,q,r,s⟩ x=⟨p2,q2,r2,s2⟩from g,Apb (show Bx.ok ⟨p2,q2,r2,s2⟩=true from o2)]
theorem Hx (W:World)(a:Addr)(v:Value):W.grownBy (W.setCell a v) (some a.block) :=
 have h:Below 0 W (W.setCell a v):=(Aph 0 W).setCell (Aq1 _) v
 ⟨h.os,h.tape,h.output,h.size,fun k _ hk=>Aqv _ _ _ _ (fun e=>hk (by rw[e]))⟩
theorem Lj {A B C:World}{row:Option Nat}(h:A.grownBy B row)(k:B.grownBy C row):A.grownBy C row :=
 ⟨k.os.trans h.os,k.tape.trans h.tape,k.output.trans h.output,Ap3 h.size k.size,fun j hj hr=>(k.block j (Ap6 hj h.size) hr).trans (h.block j hj hr)⟩
theorem A5r (W:World)(b:Nat)(u0 u1 u2 u3:Value):W.grownBy ((((W.setCell ⟨b,0,none⟩ u0).setCell ⟨b,1,none⟩ u1).setCell ⟨b,2,none⟩ u2).setCell ⟨b,3,none⟩ u3) (some b) :=
 Lj (Lj (Lj (Hx W ⟨b,0,none⟩ u0) (Hx _ ⟨b,1,none⟩ u1)) (Hx _ ⟨b,2,none⟩ u2)) (Hx _ ⟨b,3,none⟩ u3)
theorem A8t {W:World}{b:Nat}{v0 v1 v2 v3:Value}{T:TypeId}(h:W.heap[b]?=some (.cells #[v0,v1,v2,v3] T (0,0)))(u0 u1 u2 u3:Value) :
 ((((W.setCell ⟨b,0,none⟩ u0).setCell ⟨b,1,none⟩ u1).setCell ⟨b,2,none⟩ u2).setCell ⟨b,3,none⟩ u3).heap[b]?=some (.cells #[u0,u1,u2,u3] T (0,0)) :=
 (A9.A1v (w0:={ W with heap:=#[] }) ⟨h,⟨rfl,rfl,rfl,by simp,fun k hk=>by simp at hk⟩⟩ (by simp) u0 u1 u2 u3).blk
theorem A15 (a b c d:Int)(w:World):Calls Vp.prog 110 #[.agg #[.int .i64 a,.int .i64 b,.int .i64 c,.int .i64 d]] w fun e w'=>e=.returned (.func (.func 129) #[] #[.pointer (some ⟨w.heap.size,0,none⟩)])/\w.alloc (.cells #[.int .i64 a,.int .i64 b,.int .i64 c,.int .i64 d] 93)=w':=by
 go_enter Vp.func110,Tryz.ntmps110
 go_wp2
 go_ret
 exact⟨rfl,rfl⟩
def Ajd (Bc:Nat)(a b c d:Int)(_:Nat)(A:World):Prop:=A.heap[Bc]?=some (.cells #[.int .i64 a,.int .i64 b,.int .i64 c,.int .i64 d] 93 (0,0))
def Alf (x:Bx)(k:Nat)(v:Array Value):Prop:=∃p q r s:Int,v=#[.int .i64 k,.agg #[.int .i64 p,.int .i64 q,.int .i64 r,.int .i64 s]]/\Dx x k=some ⟨p,q,r,s⟩
theorem A16 (n:Nat)(a b c d:Int)(Bc N:Nat)(hv:Bl a b c d=true)(hn:1<=n)(hN:N<=1048576) :
 Aar Fence.wide n Vp.prog 129 #[.pointer (some ⟨Bc,0,none⟩)] (Alf ⟨a,b,c,d⟩) (fun k=>Dx ⟨a,b,c,d⟩ k=none) N (Ajd Bc a b c d):=by
 intro l J Jx W hl hJb hJg hY hJ0;have HV:=Aoy hv;clear hv;have hbl:Bc<W.heap.size:=(Aoz.1 (hJb 0 W hJ0)).1;have HJA:Hid (∀k A o,J k A->J k (A.alloc o)):=fun k A o h=>hJg k A _ none h (Ar7 A o none) (fun r e=>by cases e)
 have HJB:Hid (∀k A B,J k A->Below A.heap.size A B->J k B):=fun k A B h hb=>hJg k A B none h (Nb hb none) (fun r e=>by cases e)
 have HJS:Hid (∀k A u0 u1 u2 u3,J k A->J k ((((A.setCell ⟨W.heap.size,0,none⟩ u0).setCell ⟨W.heap.size,1,none⟩ u1).setCell ⟨W.heap.size,2,none⟩ u2).setCell ⟨W.heap.size,3,none⟩ u3)):=fun k A u0 u1 u2 u3 h=>hJg k A _ _ h (A5r A W.heap.size u0 u1 u2 u3) (fun r e=>by cases e;exact Ap0 _)
 refine callsIn_of_wp Vp.func129 rfl trivial ?_ rfl
 simp only[Tryz.ntmps129,Asx,Aqx,Aun,Nat.reduceAdd,Nat.reduceSub,Aus,Aur,List.push_toArray,Auw,Asd,Ars];have hJ1:=HJA.out 0 W (.cells #[.int .i64 0,.int .i64 0,.int .i64 0,.int .i64 0] 93) hJ0;have hZ1:(W.alloc (.cells #[.int .i64 0,.int .i64 0,.int .i64 0,.int .i64 0] 93)).heap[W.heap.size]?=some (.cells #[.int .i64 0,.int .i64 0,.int .i64 0,.int .i64 0] 93 (0,0)):=World.alloc_heap_new W _
 gi_wp2
 gi_loopw [4] (fun i wr=>∃(k:Nat) (p q r s:Int),k<=N/\i=.int .i64 k/\J k wr/\wr.heap[W.heap.size]?=some (.cells #[.int .i64 p,.int .i64 q,.int .i64 r,.int .i64 s] 93 (0,0))/\Hid (Dx ⟨a,b,c,d⟩ k=some ⟨p,q,r,s⟩)) (fun i _=>(N+1-intOf i).toNat)
 case atStart=>exact⟨0,0,0,0,0,Aq1 _,rfl,hJ1,hZ1,rfl⟩
 case round =>
  clear hJ0 hJ1 hZ1;obtain⟨k,p,q,r,s,hk,rfl,hJ,hZ,HO⟩:=hrel;have Z:A9 wr W.heap.size #[.int .i64 p,.int .i64 q,.int .i64 r,.int .i64 s] 93 wr:=⟨hZ,Aph _ _⟩;have z0:=Z.cell 0 _ rfl;have z1:=Z.cell 1 _ rfl;have z2:=Z.cell 2 _ rfl;have z3:=Z.cell 3 _ rfl;have hlt:=Z.lt;clear Z;have hz:Bl p q r s=true:=Zw HO.out;obtain⟨fn,tmps,assign,body,hy',hR⟩:=hY k _ wr hk ⟨p,q,r,s,rfl,HO.out⟩ hJ;have HSQ:=Aoy (Vn p q r s hz);obtain⟨p1,q1,r1,s1,t1,hx1,hok1,hc1⟩:=Ia (Bx.sq ⟨p,q,r,s⟩);rw[hx1]at HSQ;have HAD:=Aoy (A52 p1 q1 r1 s1 a b c d hok1 HV.out);obtain⟨p2,q2,r2,s2,t2,hx2,hok2,hc2⟩:=Ia ⟨p1+a,q1+b,r1+c,s1+d⟩;rw[hx2]at HAD;have HC1:=Aoy hc1;have HC2:=Aoy hc2;have HO1:=Aoy hok1;have HO2:=Aoy hok2;clear hx1 hx2 hok1 hok2 hc1 hc2 hz
  gi_wp2
  refine hR.mono ?_
  rintro e W3 (⟨rfl,hkN,hal,hJ3⟩ |⟨rfl,hJx⟩)
  ·have Z:A9 W3 W.heap.size #[.int .i64 p,.int .i64 q,.int .i64 r,.int .i64 s] 93 W3:=⟨(hal.blk _ (by omega) hlt).trans hZ,Aph _ _⟩
   have X:A9 W3 Bc #[.int .i64 a,.int .i64 b,.int .i64 c,.int .i64 d] 93 W3:=⟨hJb _ _ hJ3,Aph _ _⟩;clear z0 z1 z2 z3 hJ hZ hy' hR hal;have z0:=Z.cell 0 _ rfl;have z1:=Z.cell 1 _ rfl;have z2:=Z.cell 2 _ rfl;have z3:=Z.cell 3 _ rfl;have HJ:=Aoy hJ3;clear hJ3
   gi_wp2_with fail
   refine⟨trivial,?_⟩
   refine(Ar0.2 (HSQ.out _)).mono ?_
   rintro e w4 ⟨rfl,hb⟩;clear z0 z1 z2 z3;replace X:=X.step hb;replace Z:=Z.step hb;replace HJ:=Aoy (HJB.out _ _ _ HJ.out hb);clear hb;have S:=(A9.new w4 #[.int .i64 p1,.int .i64 q1,.int .i64 r1,.int .i64 s1] 93).up X.old;replace X:=X.alloc (.cells #[.int .i64 p1,.int .i64 q1,.int .i64 r1,.int .i64 s1] 93);replace Z:=Z.alloc (.cells #[.int .i64 p1,.int .i64 q1,.int .i64 r1,.int .i64 s1] 93);replace HJ:=Aoy (HJA.out _ _ (.cells #[.int .i64 p1,.int .i64 q1,.int .i64 r1,.int .i64 s1] 93) HJ.out);have y0:=S.cell 0 _ rfl;have y1:=S.cell 1 _ rfl;have y2:=S.cell 2 _ rfl;have y3:=S.cell 3 _ rfl;have x0:=X.cell 0 _ rfl;have x1:=X.cell 1 _ rfl;have x2:=X.cell 2 _ rfl;have x3:=X.cell 3 _ rfl
   cases t1 with
   | false =>
     have HE:Hid (Dx ⟨a,b,c,d⟩ (k+1)=none):=by
      show(Dx ⟨a,b,c,d⟩ k).bind _=none
      rw[HO.out]
      exact Kb (HC1.out.resolve_left (fun h=>by cases h.1)).2
     clear X Z S
     gi_wp2
     exact Ap4 (results_none rfl _ _ _) rfl ⟨⟨_,rfl⟩,.inr ⟨k+1,by omega,HE.out,HJ.out⟩⟩
   | true =>
     gi_wp2_with fail
     refine⟨trivial,?_⟩
     refine(Ar0.2 (HAD.out _)).mono ?_
     rintro e w5 ⟨rfl,hb⟩;clear x0 x1 x2 x3 y0 y1 y2 y3 S X;replace Z:=Z.step hb;replace HJ:=Aoy (HJB.out _ _ _ HJ.out hb);clear hb;have Nn:=(A9.new w5 #[.int .i64 p2,.int .i64 q2,.int .i64 r2,.int .i64 s2] 93).up Z.old;replace Z:=Z.alloc (.cells #[.int .i64 p2,.int .i64 q2,.int .i64 r2,.int .i64 s2] 93);replace HJ:=Aoy (HJA.out _ _ (.cells #[.int .i64 p2,.int .i64 q2,.int .i64 r2,.int .i64 s2] 93) HJ.out)
     cases t2 with
     | false =>
       have HE:Hid (Dx ⟨a,b,c,d⟩ (k+1)=none):=by
        show(Dx ⟨a,b,c,d⟩ k).bind _=none
        rw[HO.out]
        exact Kc (HC1.out.resolve_right (fun h=>by cases h.1)).2 (HC2.out.resolve_left (fun h=>by cases h.1)).2
       clear Z Nn
       gi_wp2
       exact Ap4 (results_none rfl _ _ _) rfl ⟨⟨_,rfl⟩,.inr ⟨k+1,by omega,HE.out,HJ.out⟩⟩
     | true =>
       have HI2:Hid (Dx ⟨a,b,c,d⟩ (k+1)=some ⟨p2,q2,r2,s2⟩):=Aia HO.out (HC1.out.resolve_right (fun h=>by cases h.1)).2 (HC2.out.resolve_right (fun h=>by cases h.1)).2 HO1.out HO2.out
       have n0:=Nn.cell 0 _ rfl;have n1:=Nn.cell 1 _ rfl;have n2:=Nn.cell 2 _ rfl;have n3:=Nn.cell 3 _ rfl;have z0:=Z.cell 0 _ rfl;have z1:=Z.cell 1 _ rfl;have z2:=Z.cell 2 _ rfl;have z3:=Z.cell 3 _ rfl;have f0:=Z.frozen 0;have f1:=Z.frozen 1;have f2:=Z.frozen 2;have f3:=Z.frozen 3;have HZZ:=Aoy Z.blk;clear Z Nn
       gi_wp2
       go_roundw
       case rel=>exact⟨k+1,p2,q2,r2,s2,by omega,by go_num,HJS.out _ _ _ _ _ _ HJ.out,A8t HZZ.out _ _ _ _,HI2⟩
       case measure=>simp[intOf];omega
  ·gi_wp2
   go_end0
   exact⟨⟨_,rfl⟩,.inl ⟨k,hk,hJx⟩⟩
end
end Go.Proofs.YtlfleicchbgcmaaGreat
