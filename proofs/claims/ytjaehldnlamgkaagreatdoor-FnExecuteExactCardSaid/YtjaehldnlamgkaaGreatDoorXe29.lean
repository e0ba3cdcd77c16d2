import Derived.Test.YtjaehldnlamgkaaGreatDoorXe28
import Derived.Sort.QuietThIn
import Derived.RegionIn
import Derived.Test.YtjaehldnlamgkaaGreatDoorXe0
import Derived.Test.YtjaehldnlamgkaaGreatDoorXeK
set_option linter.all false
set_option maxHeartbeats 16000000
set_option maxRecDepth 100000
namespace Go.Proofs.YtjaehldnlamgkaaGreatDoor
section
open Go.RowKit
theorem Uu (a b c d:Int)(hv:Ap a b c d=true)(w:World):Calls Vp.prog 195 #[.agg #[.int .i64 a,.int .i64 b,.int .i64 c,.int .i64 d]] w fun e w'=>e=.returned (En (Bx.sq ⟨a,b,c,d⟩))/\Below w.heap.size w w':=by
 obtain⟨X,Z⟩:=A2x w #[.int .i64 a,.int .i64 b,.int .i64 c,.int .i64 d] 93 #[.int .i64 0,.int .i64 0,.int .i64 0,.int .i64 0] 93;obtain⟨b1,b2,b3,b4,b5,b6⟩:=Bx.bd (x:=⟨a,b,c,d⟩) hv;dsimp only at b1 b2 b3 b4 b5 b6;have l1:=Ec (l:=a) (h:=b) (k:=134217728) (by omega) (by omega)
 have l2:=Ec (l:=c) (h:=d) (k:=134217728) (by omega) (by omega)
 have l3:=Cm (l:=a) (h:=b) (k:=134217728) (by omega) (by omega) (by omega) (by omega)
 have l4:=Cm (l:=c) (h:=d) (k:=134217728) (by omega) (by omega) (by omega) (by omega)
 have u1:=Fw (x:=a) (y:=c) (k:=134217728) (by omega) (by omega) (by omega) (by omega)
 have u2:=Fw (x:=a) (y:=d) (k:=134217728) (by omega) (by omega) (by omega) (by omega)
 have u3:=Fw (x:=b) (y:=c) (k:=134217728) (by omega) (by omega) (by omega) (by omega)
 have u4:=Fw (x:=b) (y:=d) (k:=134217728) (by omega) (by omega) (by omega) (by omega)
 have bm:-18014398509481984<=mLo ⟨a,b,c,d⟩/\mLo ⟨a,b,c,d⟩<=18014398509481984:=by unfold mLo;dsimp only;omega
 have bn:-18014398509481984<=mHi ⟨a,b,c,d⟩/\mHi ⟨a,b,c,d⟩<=18014398509481984:=by unfold mHi;dsimp only;omega
 have HV:=Aly (Dx a b c d);rw[hv]at HV;have HQ:=Aly (Ej a b (by omega) (by omega) (by omega) (by omega))
 have HR:=Aly (Ej c d (by omega) (by omega) (by omega) (by omega))
 have HT:=Aly (A4v a b c d (by omega) (by omega) (by omega) (by omega) (by omega) (by omega) (by omega) (by omega))
 have hsq:Bx.sq ⟨a,b,c,d⟩=⟨(Cc a b-Ba c d) / 16777216,Mx (Ba a b-Cc c d) 16777216,(mLo ⟨a,b,c,d⟩+mLo ⟨a,b,c,d⟩) / 16777216,Mx (mHi ⟨a,b,c,d⟩+mHi ⟨a,b,c,d⟩) 16777216⟩:=by
  unfold Bx.sq;rw[show 2*mLo ⟨a,b,c,d⟩=mLo ⟨a,b,c,d⟩+mLo ⟨a,b,c,d⟩ by omega,show 2*mHi ⟨a,b,c,d⟩=mHi ⟨a,b,c,d⟩+mHi ⟨a,b,c,d⟩ by omega]
 rw[hsq];generalize Cc a b=s1 at *;generalize Cc c d=s3 at *;generalize Ba a b=s2 at *;generalize Ba c d=s4 at *;generalize mLo ⟨a,b,c,d⟩=m3 at *;generalize mHi ⟨a,b,c,d⟩=n3 at *;have HL:=Aly (X3 s1 s2 s3 s4 (by omega) (by omega) (by omega) (by omega) (by omega) (by omega) (by omega) (by omega))
 have HP:=Aly (Gf m3 n3 m3 n3 (by omega) (by omega) (by omega) (by omega) (by omega) (by omega) (by omega) (by omega))
 have HO:=Aly (Nt (s1-s4) (s2-s3) 24 (by decide) (by omega) (by omega) (by omega) (by omega))
 have HO2:=Aly (Nt (m3+m3) (n3+n3) 24 (by decide) (by omega) (by omega) (by omega) (by omega))
 have hk:((2^24:Nat):Int)=16777216:=rfl;have hk2:((24:Nat):Int)=24:=rfl;rw[hk,hk2]at HO HO2;generalize s1-s4=D1 at *;generalize s2-s3=D2 at *;generalize m3+m3=D3 at *;generalize n3+n3=D4 at *;generalize D1 / 16777216=F1 at *;generalize Mx D2 16777216=F2 at *;generalize D3 / 16777216=F3 at *;generalize Mx D4 16777216=F4 at *;have HD:=Aly (Tu F1 F2 F3 F4);obtain⟨o1,o2,o3,o4,o5,hx⟩:=Ig ⟨F1,F2,F3,F4⟩;rw[hx]at HD;rw[hx];clear b1 b2 b3 b4 b5 b6 l1 l2 l3 l4 u1 u2 u3 u4 bm bn hsq hk hk2 hx hv;have x0:=X.cell 0 _ rfl;have x1:=X.cell 1 _ rfl;have x2:=X.cell 2 _ rfl;have x3:=X.cell 3 _ rfl
 go_enter Vp.func195,Tryz.ntmps195
 go_wp2_with fail
 refine(HV.out _).mono ?_
 rintro e w1 ⟨rfl,hb⟩;clear x0 x1 x2 x3;replace X:=X.step hb;replace Z:=Z.step hb;clear hb;have x0:=X.cell 0 _ rfl;have x1:=X.cell 1 _ rfl;have x2:=X.cell 2 _ rfl;have x3:=X.cell 3 _ rfl
 go_wp2_with fail
 refine(Eh a b c d _).mono ?_
 rintro e w2 ⟨rfl,hb⟩;clear x0 x1 x2 x3;replace X:=X.step hb;replace Z:=Z.step hb;clear hb;have Y:=(A7.new w2 #[.int .i64 a,.int .i64 b,.int .i64 c,.int .i64 d] 204).up X.old;have hlz:=Z.lt;replace Z:=Z.alloc (.cells #[.int .i64 a,.int .i64 b,.int .i64 c,.int .i64 d] 204);have hsz:=X.old.size;clear X
 go_upto_region 4 with fail
 generalize w2.heap.size=yb at *;generalize w2.alloc (.cells #[.int .i64 a,.int .i64 b,.int .i64 c,.int .i64 d] 204)=W at *;have hyb:yb<W.drew.heap.size:=Y.lt;have HY:Hid (∀W',Below W.drew.heap.size W.drew W'->A7 w yb #[.int .i64 a,.int .i64 b,.int .i64 c,.int .i64 d] 204 W'):=fun W' h=>(Y.step ((Bp.refl _).drew.below _)).step h
 have HZ:Hid (∀W',Below W.drew.heap.size W.drew W'->A7 w (w.heap.size+1) #[.int .i64 0,.int .i64 0,.int .i64 0,.int .i64 0] 93 W'):=fun W' h=>(Z.step ((Bp.refl _).drew.below _)).step h
 have HW:Hid (∀W',Below W.drew.heap.size W.drew W'->Below w.heap.size w W'):=fun W' h=>(HY.out W' h).old
 have hbk:=Amc W.drew.heap.size W.drew;have hzl:w.heap.size+1<W.drew.heap.size:=Z.lt;have HYd:Hid (∀o,A7 w yb #[.int .i64 a,.int .i64 b,.int .i64 c,.int .i64 d] 204 (W.alloc o).drew):=fun o=>(Y.alloc o).step ((Bp.refl _).drew.below _)
 have H0:Hid (∀o,Below W.drew.heap.size W.drew (W.alloc o).drew):=fun o=>(Amc _ W.drew).alloc (Am0 _) o
 have HWW:Hid (Below w.heap.size w W):=Y.old;clear Y Z
 go_cut [5]from 13 to 19 (fun p wx=>∃rb:Nat,p=.pointer (some ⟨rb,0,none⟩)/\Hid (A7 w rb #[.int .i64 D1,.int .i64 D2] 202 wx/\A7 w yb #[.int .i64 a,.int .i64 b,.int .i64 c,.int .i64 d] 204 wx/\A7 w (w.heap.size+1) #[.int .i64 0,.int .i64 0,.int .i64 0,.int .i64 0] 93 wx/\w.heap.size+1<rb))
 case first =>
  go_region_held3 (fun w'=>w'.cell? ⟨yb,0,none⟩=some (.int .i64 a)/\w'.cell? ⟨yb,1,none⟩=some (.int .i64 b)/\w'.cell? ⟨yb,2,none⟩=some (.int .i64 c)/\w'.cell? ⟨yb,3,none⟩=some (.int .i64 d)) (((first|dsimp only|skip);first |(with_reducible exact⟨(HY.out _ hbk).cell 0 _ rfl,(HY.out _ hbk).cell 1 _ rfl,(HY.out _ hbk).cell 2 _ rfl,(HY.out _ hbk).cell 3 _ rfl⟩) |(with_reducible exact⟨((HY.out _ hbk).alloc _).cell 0 _ rfl,((HY.out _ hbk).alloc _).cell 1 _ rfl,((HY.out _ hbk).alloc _).cell 2 _ rfl,((HY.out _ hbk).alloc _).cell 3 _ rfl⟩) |(with_reducible exact⟨(HYd.out _).cell 0 _ rfl,(HYd.out _).cell 1 _ rfl,(HYd.out _).cell 2 _ rfl,(HYd.out _).cell 3 _ rfl⟩) |(with_reducible exact⟨((HY.out _ hbk).E0 (Nat.le_of_succ_le (Nat.le_of_lt hrl)) hne _ _).cell 0 _ rfl,((HY.out _ hbk).E0 (Nat.le_of_succ_le (Nat.le_of_lt hrl)) hne _ _).cell 1 _ rfl,((HY.out _ hbk).E0 (Nat.le_of_succ_le (Nat.le_of_lt hrl)) hne _ _).cell 2 _ rfl,((HY.out _ hbk).E0 (Nat.le_of_succ_le (Nat.le_of_lt hrl)) hne _ _).cell 3 _ rfl⟩))) (first
   |(go_at_call 163;(first |(with_reducible refine(HQ.out _).mono ?_) |(with_reducible refine(HR.out _).mono ?_));rintro e w' ⟨rfl,hb⟩;first |(replace hbk:=hbk.trans (hb.mono hbk.size);first |(replace R:=R.step hb;have r0:=R.cell 0 _ rfl;have r1:=R.cell 1 _ rfl;have f0:=R.frozen 0;have f1:=R.frozen 1)|skip) |(have R:=((A7.new _ #[.int .i64 0,.int .i64 0] 202).step hb).up (HW.out _ hbk);have hne:yb≠_:=Anb (Am2 hyb hbk.size);have hrl:=Am2 hzl hbk.size;replace hbk:=(hbk.alloc hbk.size _).trans (hb.mono (hbk.alloc hbk.size _).size);have r0:=R.cell 0 _ rfl;have r1:=R.cell 1 _ rfl;have f0:=R.frozen 0;have f1:=R.frozen 1) |(have R:=(((A7.new W #[.int .i64 0,.int .i64 0] 202).step ((Bp.refl _).drew.below _)).step hb).up HWW.out;have hne:yb≠W.heap.size:=Anb hyb;have hrl:w.heap.size+1<W.heap.size:=hzl;replace hbk:=(H0.out _).trans (hb.mono (H0.out _).size);have r0:=R.cell 0 _ rfl;have r1:=R.cell 1 _ rfl;have f0:=R.frozen 0;have f1:=R.frozen 1);clear hb)
   |(go_at_call 162;(with_reducible refine(HL.out _).mono ?_);rintro e w' ⟨rfl,hb⟩;first |(replace hbk:=hbk.trans (hb.mono hbk.size);first |(replace R:=R.step hb;have r0:=R.cell 0 _ rfl;have r1:=R.cell 1 _ rfl;have f0:=R.frozen 0;have f1:=R.frozen 1)|skip) |(have R:=((A7.new _ #[.int .i64 0,.int .i64 0] 202).step hb).up (HW.out _ hbk);have hne:yb≠_:=Anb (Am2 hyb hbk.size);have hrl:=Am2 hzl hbk.size;replace hbk:=(hbk.alloc hbk.size _).trans (hb.mono (hbk.alloc hbk.size _).size);have r0:=R.cell 0 _ rfl;have r1:=R.cell 1 _ rfl;have f0:=R.frozen 0;have f1:=R.frozen 1) |(have R:=(((A7.new W #[.int .i64 0,.int .i64 0] 202).step ((Bp.refl _).drew.below _)).step hb).up HWW.out;have hne:yb≠W.heap.size:=Anb hyb;have hrl:w.heap.size+1<W.heap.size:=hzl;replace hbk:=(H0.out _).trans (hb.mono (H0.out _).size);have r0:=R.cell 0 _ rfl;have r1:=R.cell 1 _ rfl;have f0:=R.frozen 0;have f1:=R.frozen 1);clear hb))
  all_goals
   go_wp2_with fail
   go_meet
   first
    | exact⟨_,rfl,(A7.new _ _ _).up (HW.out _ hbk),(HY.out _ hbk).alloc _,(HZ.out _ hbk).alloc _,by have:=hbk.size;omega⟩
    | exact⟨_,rfl,(R.set (by omega) 0 (.int .i64 D1)).set (by omega) 1 (.int .i64 D2),(HY.out _ hbk).E0 (by omega) hne _ _,(HZ.out _ hbk).E0 (by omega) (by omega) _ _,by omega⟩
 case rest =>
  obtain⟨rb,rfl,HC⟩:=hcut;clear HY HZ HW hbk HYd H0 HWW hyb hzl hlz hsz HQ HR HL;obtain⟨R,Y,Z,hrb⟩:=HC.out;clear HC;have hrl:=R.lt;have y0:=Y.cell 0 _ rfl;have y1:=Y.cell 1 _ rfl;have y2:=Y.cell 2 _ rfl;have y3:=Y.cell 3 _ rfl
  go_wp2_with fail
  refine(HT.out _).mono ?_
  rintro e w5 ⟨rfl,hb⟩;clear y0 y1 y2 y3 Y;replace R:=R.step hb;replace Z:=Z.step hb;have hib:rb<w5.heap.size:=R.lt;clear hb;have I:=(A7.new w5 #[.int .i64 m3,.int .i64 n3] 202).up R.old;replace R:=R.alloc (.cells #[.int .i64 m3,.int .i64 n3] 202);replace Z:=Z.alloc (.cells #[.int .i64 m3,.int .i64 n3] 202);have i0:=I.cell 0 _ rfl;have i1:=I.cell 1 _ rfl
  go_wp2_with fail
  refine(HP.out _).mono ?_
  rintro e w6 ⟨rfl,hb⟩;clear i0 i1;replace R:=R.step hb;replace Z:=Z.step hb;replace I:=I.step hb;clear hb;have i0:=I.cell 0 _ rfl;have i1:=I.cell 1 _ rfl;have f0:=I.frozen 0;have f1:=I.frozen 1
  go_upto_region 7 with fail
  clear i0 i1 f0 f1;generalize w5.heap.size=ib at *;replace I:A7 w ib #[.int .i64 D3,.int .i64 D4] 202 ((w6.setCell ⟨ib,0,none⟩ (.int .i64 D3)).setCell ⟨ib,1,none⟩ (.int .i64 D4)):=(I.set (by omega) 0 (.int .i64 D3)).set (by omega) 1 (.int .i64 D4)
  replace R:=R.E0 (b':=ib) (by omega) (by omega) (.int .i64 D3) (.int .i64 D4)
  replace Z:=Z.E0 (b':=ib) (by omega) (by omega) (.int .i64 D3) (.int .i64 D4)
  generalize (w6.setCell ⟨ib,0,none⟩ (.int .i64 D3)).setCell ⟨ib,1,none⟩ (.int .i64 D4)=V at *;have HRk:Hid (∀W',Below V.drew.heap.size V.drew W'->A7 w rb #[.int .i64 D1,.int .i64 D2] 202 W'):=fun W' h=>(R.step ((Bp.refl _).drew.below _)).step h
  have HIk:Hid (∀W',Below V.drew.heap.size V.drew W'->A7 w ib #[.int .i64 D3,.int .i64 D4] 202 W'):=fun W' h=>(I.step ((Bp.refl _).drew.below _)).step h
  have HZk:Hid (∀W',Below V.drew.heap.size V.drew W'->A7 w (w.heap.size+1) #[.int .i64 0,.int .i64 0,.int .i64 0,.int .i64 0] 93 W'):=fun W' h=>(Z.step ((Bp.refl _).drew.below _)).step h
  have HRs:=Aly (fun W' h u0 u1 u2 u3=>(HRk.out W' h).Fb (b':=w.heap.size+1) (by omega) (by omega) u0 u1 u2 u3)
  have HIs:=Aly (fun W' h u0 u1 u2 u3=>(HIk.out W' h).Fb (b':=w.heap.size+1) (by omega) (by omega) u0 u1 u2 u3)
  have hbk:=Amc V.drew.heap.size V.drew;clear R I Z
  go_region_held3 (fun w'=>w'.cell? ⟨rb,0,none⟩=some (.int .i64 D1)/\w'.cell? ⟨rb,1,none⟩=some (.int .i64 D2)/\w'.cell? ⟨ib,0,none⟩=some (.int .i64 D3)/\w'.cell? ⟨ib,1,none⟩=some (.int .i64 D4)) (((first|dsimp only|skip);first |(with_reducible exact⟨(HRk.out _ hbk).cell 0 _ rfl,(HRk.out _ hbk).cell 1 _ rfl,(HIk.out _ hbk).cell 0 _ rfl,(HIk.out _ hbk).cell 1 _ rfl⟩) |(with_reducible exact⟨(HRs.out _ hbk _ _ _ _).cell 0 _ rfl,(HRs.out _ hbk _ _ _ _).cell 1 _ rfl,(HIs.out _ hbk _ _ _ _).cell 0 _ rfl,(HIs.out _ hbk _ _ _ _).cell 1 _ rfl⟩))) (first
   |(go_at_call 193;(first |(with_reducible refine(HO.out _).mono ?_) |(with_reducible refine(HO2.out _).mono ?_));rintro e w' ⟨rfl,hb⟩;replace hbk:=hbk.trans (hb.mono hbk.size);clear hb)
   |(go_at_call 177;(with_reducible refine(HD.out _).mono ?_);rintro e w' ⟨rfl,hb⟩;replace hbk:=hbk.trans (hb.mono hbk.size);clear hb;have z0:=(HZk.out _ hbk).cell 0 _ rfl;have z1:=(HZk.out _ hbk).cell 1 _ rfl;have z2:=(HZk.out _ hbk).cell 2 _ rfl;have z3:=(HZk.out _ hbk).cell 3 _ rfl;have g0:=(HZk.out _ hbk).frozen 0;have g1:=(HZk.out _ hbk).frozen 1;have g2:=(HZk.out _ hbk).frozen 2;have g3:=(HZk.out _ hbk).frozen 3))
  all_goals
   go_wp2
   exact Am5 (v:=.tuple #[.agg #[.int .i64 o1,.int .i64 o2,.int .i64 o3,.int .i64 o4],.bool o5]) (by simp[results,Tryz.f195,go_sem,z0,z1,z2,z3]) rfl ⟨rfl,A8p (HZk.out _ hbk).old (b:=w.heap.size+1) (by omega) _ _ _ _⟩
end
section
open Go.RowKit
structure Bs (s:Nat)(A B:World):Prop where
 size:A.heap.size<=B.heap.size
 blk:∀j,s<=j->j<A.heap.size->B.heap[j]?=A.heap[j]?
theorem Bs.refl (s:Nat)(A:World):Bs s A A:=⟨Am0 _,fun _ _ _=>rfl⟩
theorem Bs.trans {s:Nat}{A B C:World}(h:Bs s A B)(k:Bs s B C):Bs s A C:=⟨Am1 h.size k.size,fun j hj hl=>(k.blk j hj (Am2 hl h.size)).trans (h.blk j hj hl)⟩
theorem Bs.grown {s:Nat}{A B:World}{row:Option Nat}(h:A.grownBy B row)(hr:∀r,row=some r->r<s):Bs s A B:=⟨h.size,fun j hj hl=>h.block j hl (fun e=>by have:=hr j e.symm;omega)⟩
theorem Bs.Tc {s:Nat}{A B:World}(h:Below A.heap.size A B):Bs s A B:=⟨h.size,fun j _ hl=>h.block j hl⟩
theorem Bs.keeps {s:Nat}{A B:World}(h:Bs s A B):KeepsFrom s A B:=⟨h.size,fun k o hB hk _=>(h.blk k hB (Alx.1 hk).1).trans hk⟩
theorem Bs.up {s s':Nat}{A B:World}(h:Bs s A B)(hs:s<=s'):Bs s' A B:=⟨h.size,fun j hj hl=>h.blk j (Am1 hs hj) hl⟩
theorem Li {A B:World}(h:Below A.heap.size A B)(row:Option Nat):A.grownBy B row:=⟨h.os,h.tape,h.output,h.size,fun k hk _=>h.block k hk⟩
def Xg (B:Nat)(I:Nat->World->Prop):Prop:=∀s W W' row,I s W->W.grownBy W' row ->(∀r,row=some r->B<=r)->I s W'
theorem Xg.from {B:Nat}{I:Nat->World->Prop}(h:Xg B I):OwnFrom B I:=fun s W W' row hs hg hr=>h s W W' row hs hg (fun r e=>(hr r e).1)
def A7z (h0:Nat)(N:Nat)(I:Nat->World->Prop)(Ix:Code->Nat->World->Prop)(k:Nat)(W:World):Exit->Act->World->Prop
 | .normal,_,B=>Bs h0 W B/\k<N/\I (k+1) B
 | .ret,_,B=>Bs h0 W B/\Ix .ret k B
 | .exit id,_,B=>Bs h0 W B/\Ix (.exit id) k B
 | .goto t,_,B=>Bs h0 W B/\Ix (.goto t) k B
 | .panic _,_,_=>False
 | .outgrown,_,_=>False
def A9s (F:Fence)(n:Nat)(P:Program)(g:Nat)(lb:Array Value)(R:Nat->Array Value->Prop)(fini:Nat->Prop)(N:Nat)(Keep:Nat->World->Prop):Prop :=
 ∀(l:Nat) (J Jx:Nat->World->Prop) (W:World),
  l<W.heap.size ->
  (∀k A,J k A->Keep k A) ->
  (∀k A B row,J k A->A.grownBy B row ->(∀r,row=some r->W.heap.size<=r)->J k B) ->
  (∀k v A,k<=N->R k v->J k A->YieldAt F (n-1) P l v A fun e B =>
   (e=.returned (.bool true)/\k<N/\Bs (l+1) A B/\J (k+1) B) \/(e=.returned (.bool false)/\Jx k B)) ->
  J 0 W ->
  CallsIn F n P g (#[.func (.yield l) #[] #[]]++lb) W fun e B=>(∃v,e=.returned v) /\((∃k,k<=N/\Jx k B) \/(∃k,k<=N/\fini k/\J k B))
variable {F : Fence} {n : Nat} {P : Program}
theorem A5i {g:Operand}{ps:Array Tmp}{assign body:Code}{Q:Exit->Act->World->Prop}{a:Act}{w:World}
 (hro:F.round=none) (h1:1<=n) {gf:Nat} {lb:Array Value} (hg:a.eval g=.func (.func gf) #[] lb) (hFg:F.fn gf) (eg:∀args w,(callFunc gf args).run P w=.ok (.enter gf args) w)
 {R:Nat->Array Value->Prop} {fini:Nat->Prop} {N:Nat} {Keep:Nat->World->Prop} (hseq:A9s F (n-1) P gf lb R fini N Keep) (hps:∀k v,R k v->v.size=ps.size)
 (I:Nat->World->Prop) (Ix:Code->Nat->World->Prop) (hI:Xg w.heap.size I) (hIx:∀c,OwnFrom w.heap.size (Ix c)) (hIb:∀k A,I k A->Keep k A) (hi0:I 0 w) (RA:Nat->Array Value->Act->World->Prop) (hRA:∀v a₁,OwnFrom w.heap.size (fun k W=>RA k v a₁ W))
 (hassign:∀(l k:Nat) (v:Array Value) (W:World) (K:Act->World->Prop),k<=N->R k v->I k W ->(∀a₁ W₁,Bs w.heap.size W W₁->RA k v a₁ W₁->K a₁ W₁) ->
  assign.wpIn (F.inRound l) (n-1-1) P (Exit.then K (fun _ _ _=>False)) { tmps:=(ps.zip v).foldl (fun t (p,v)=>t.setIfInBounds p v) a.tmps,defers:=[] } W)
 (hbody:∀(l k:Nat) (v:Array Value) (a₁:Act) (W:World),k<=N->R k v->RA k v a₁ W->body.wpIn (F.inRound l) (n-1-1) P (A7z w.heap.size N I Ix k W) a₁ W)
 (hdone:∀(D k:Nat) (W:World),w.heap.size<=D->k<=N->fini k->I k W->W.heap[D]?=some (.deferred (some []))->Q .normal { a with defers:={ target:=.collected D,args:=#[] } :: a.defers } W)
 (hstop:∀(D:Nat) (c:Code) (k:Nat) (W:World),w.heap.size<=D->k<=N->Ix c k W->W.heap[D]?=some (.deferred (some []))->c.wpIn F n P Q { a with defers:={ target:=.collected D,args:=#[] } :: a.defers } W) :
 (Code.rangeFunc g ps assign body).wpIn F n P Q a w:=by
 have hIA:=hI;replace hI:=hI.from
 refine wpIn_rangeFunc (fun fn hfn=>?_)
 rw[hro];obtain⟨s,hs⟩:∃s,w.heap.size=s:=⟨_,rfl⟩;obtain⟨W1,hW1⟩:∃W1,(w.alloc (.deferred (some []))).alloc (.loop (An fn a.tmps ps assign body s .ready none))=W1:=⟨_,rfl⟩
 have hg1:w.grownBy W1 none:=by
  rw[<-hW1];exact(Ans w _ none).trans (Ans _ _ none)
 have hL1:W1.heap[s+1]?=some (.loop (An fn a.tmps ps assign body s .ready none)):=by
  rw[<-hW1,<-hs];have:=World.alloc_heap_new (w.alloc (.deferred (some []))) (.loop (An fn a.tmps ps assign body w.heap.size .ready none))
  rwa [An5]at this
 have hD1:W1.heap[s]?=some (.deferred (some [])):=by
  rw[<-hW1,<-hs];exact(Aow _ _ _ (by simp)).trans (World.alloc_heap_new w _)
 have hI1:I 0 W1:=hI 0 w W1 none hi0 hg1 (fun r e=>by cases e)
 rw[hs]at hI hIA hIx hRA hassign hbody hdone hstop
 refine⟨s+1,[{ target:=.collected s,args:=#[] }],W1,{ target:=.fn (.func gf) lb,args:=#[.func (.yield (s+1)) #[] #[]] },W1,gf,
  #[.func (.yield (s+1)) #[] #[]]++lb,W1,?_,?_,?_,?_,fun _=>h1,?_⟩
 ·rw[<-hW1,<-hs];exact run_enterLoop_outer _ _ _ _ _
 ·simp only[resolve,hg];simp[go_sem]
 ·intro f' hf';simp[Target.leads]at hf';subst hf';exact hFg
 ·simp[invoke,go_sem,eg]
 ·refine(hseq (s+1)
   (fun k W=>I k W/\W.heap[s+1]?=some (.loop (An fn a.tmps ps assign body s .ready none))/\W.heap[s]?=some (.deferred (some [])))
   (fun k W=>∃c,Ix c k W/\W.heap[s+1]?=some (.loop (An fn a.tmps ps assign body s .done (some c)))/\W.heap[s]?=some (.deferred (some [])))
   W1 (Alx.1 hL1).1 (fun k A h=>hIb k A h.1) ?_ ?_ ⟨hI1,hL1,hD1⟩).mono ?_
  ·rintro k A B row ⟨hi,hl,hd⟩ hgr hrow;have hW1:s+1<W1.heap.size:=(Alx.1 hL1).1;have hne:∀j,j<=s+1->some j≠row:=fun j hj e=>by have:=hrow j e.symm;omega
   exact⟨hIA k A B row hi hgr (fun r e=>by have:=hrow r e;omega),(hgr.block _ (Alx.1 hl).1 (hne _ (Am0 _))).trans hl,(hgr.block _ (Alx.1 hd).1 (hne _ (by omega))).trans hd⟩
  ·
   rintro k v A hk hR ⟨hi,hl,hd⟩;have hlt0:s+1<A.heap.size:=(Alx.1 hl).1
   refine⟨fn,_,assign,body,run_yield (P:=P) (args:=v) hl (hps k v hR),roundIn_of_wpIn hfn (hassign _ k v A _ hk hR hi fun a₁ A1 hal hRA1=>?_)⟩
   have hl1:=(hal.blk _ (by omega) hlt0).trans hl
   have hd1:=(hal.blk _ (Am0 _) (by omega)).trans hd
   have hlt:s+1<A1.heap.size:=Am2 hlt0 hal.size
   refine⟨_,run_beginRound hl1 rfl,?_⟩
   obtain⟨A2,hA2⟩:∃A2,A1.putObj (s+1) (.loop { An fn a.tmps ps assign body s .ready none with state:=.busy })=A2:=⟨_,rfl⟩
   have hl2:A2.heap[s+1]?=some (.loop { An fn a.tmps ps assign body s .ready none with state:=.busy }):=by rw[<-hA2];exact World.putObj_heap_same hlt
   have hd2:A2.heap[s]?=some (.deferred (some [])):=by rw[<-hA2];exact(World.putObj_heap_other (by omega)).trans hd1
   have hlo:Bs (s+1+1) A A2:=(hal.up (by omega)).trans (by rw[<-hA2];exact Bs.grown (grownBy_putObj' A1 (s+1) _) (fun r e=>by cases e;omega))
   have hi2:RA k v a₁ A2:=by rw[<-hA2];exact(hRA v a₁).putObj _ hRA1 (by omega) hl1 rfl
   rw[hA2]
   refine wpIn_mono (hbody (s+1) k v a₁ A2 hk hR hi2) ?_
   have ends:∀(jump:Option Code) (B:World),KeepsFrom s A2 B->B.heap[s+1]?=some (.loop { An fn a.tmps ps assign body s .ready none with state:=.busy }) /\
    (Instr.endRound (s+1) jump).run P B=.ok (.bool jump.isNone) (B.putObj (s+1) (.loop (An fn a.tmps ps assign body s (if jump.isNone then .ready else .done) jump))) /\
    (B.putObj (s+1) (.loop (An fn a.tmps ps assign body s (if jump.isNone then .ready else .done) jump))).heap[s+1]?=some (.loop (An fn a.tmps ps assign body s (if jump.isNone then .ready else .done) jump)) /\
    (B.putObj (s+1) (.loop (An fn a.tmps ps assign body s (if jump.isNone then .ready else .done) jump))).heap[s]?=some (.deferred (some [])):=by
    intro jump B hk3;have hl3:=hk3.same _ _ (by omega) hl2 rfl
    exact⟨hl3,run_endRound (P:=P) jump hl3,World.putObj_heap_same (Alx.1 hl3).1,(World.putObj_heap_other (by omega)).trans (hk3.same _ _ (Am0 _) hd2 rfl)⟩
   intro e a3 B hp
   cases e with
   | normal =>
     obtain⟨hk3,hkN,hi3⟩:=hp;obtain⟨hl3,hr,hl4,hd4⟩:=ends none B hk3.keeps
     exact⟨_,_,hr,.inl ⟨rfl,hkN,(hlo.trans (hk3.up (by omega))).trans (Bs.grown (grownBy_putObj' B (s+1) _) (fun r e=>by cases e;omega)),hI.putObj _ hi3 (by omega) hl3 rfl,hl4,hd4⟩⟩
   | ret =>
     obtain⟨hk3,hi3⟩:=hp;obtain⟨hl3,hr,hl4,hd4⟩:=ends (some .ret) B hk3.keeps
     exact⟨_,_,hr,.inr ⟨rfl,.ret,(hIx _).putObj _ hi3 (by omega) hl3 rfl,hl4,hd4⟩⟩
   | exit id =>
     obtain⟨hk3,hi3⟩:=hp;obtain⟨hl3,hr,hl4,hd4⟩:=ends (some (.exit id)) B hk3.keeps
     exact⟨_,_,hr,.inr ⟨rfl,.exit id,(hIx _).putObj _ hi3 (by omega) hl3 rfl,hl4,hd4⟩⟩
   | goto t =>
     obtain⟨hk3,hi3⟩:=hp;obtain⟨hl3,hr,hl4,hd4⟩:=ends (some (.goto t)) B hk3.keeps
     exact⟨_,_,hr,.inr ⟨rfl,.goto t,(hIx _).putObj _ hi3 (by omega) hl3 rfl,hl4,hd4⟩⟩
   | panic ch=>exact hp.elim
   | outgrown=>exact hp.elim
  ·
   rintro e B ⟨⟨v,rfl⟩,(⟨k,hkN,c,hi,hl,hd⟩ |⟨k,hkN,hf,hi,hl,hd⟩)⟩
   ·exact⟨some c,_,run_endLoop (P:=P) hl (by simp[An]),hstop _ c k _ (Am0 _) hkN ((hIx c).putObj _ hi (by omega) hl rfl) ((World.putObj_heap_other (by omega)).trans hd)⟩
   ·exact⟨none,_,run_endLoop (P:=P) hl (by simp[An]),hdone _ k _ (Am0 _) hkN hf (hI.putObj _ hi (by omega) hl rfl) ((World.putObj_heap_other (by omega)).trans hd)⟩
end
section
open Go.RowKit
theorem Ahc {x z:Bx}{k:Nat}{p q r s p2 q2 r2 s2:Int}(h1:E7 x k=some z)(h:z.sq=⟨p,q,r,s⟩)(g:(⟨p+x.a,q+x.b,r+x.c,s+x.d⟩:Bx)=⟨p2,q2,r2,s2⟩)(o1:Ap p q r s=true)(o2:Ap p2 q2 r2 s2=true) :
 E7 x (k+1)=some ⟨p2,q2,r2,s2⟩:=by
 show(E7 x k).bind _=_
 rw[h1]
 show Bx.next x z=_
 unfold Bx.next;rw[h,Amo (show Bx.ok ⟨p,q,r,s⟩=true from o1),show Bx.add ⟨p,q,r,s⟩ x=⟨p2,q2,r2,s2⟩from g,Amo (show Bx.ok ⟨p2,q2,r2,s2⟩=true from o2)]
theorem Ge (W:World)(a:Addr)(v:Value):W.grownBy (W.setCell a v) (some a.block) :=
 have h:Below 0 W (W.setCell a v):=(Amc 0 W).setCell (Amu _) v
 ⟨h.os,h.tape,h.output,h.size,fun k _ hk=>An8 _ _ _ _ (fun e=>hk (by rw[e]))⟩
theorem Jz {A B C:World}{row:Option Nat}(h:A.grownBy B row)(k:B.grownBy C row):A.grownBy C row :=
 ⟨k.os.trans h.os,k.tape.trans h.tape,k.output.trans h.output,Am1 h.size k.size,fun j hj hr=>(k.block j (Am2 hj h.size) hr).trans (h.block j hj hr)⟩
theorem A4s (W:World)(b:Nat)(u0 u1 u2 u3:Value):W.grownBy ((((W.setCell ⟨b,0,none⟩ u0).setCell ⟨b,1,none⟩ u1).setCell ⟨b,2,none⟩ u2).setCell ⟨b,3,none⟩ u3) (some b) :=
 Jz (Jz (Jz (Ge W ⟨b,0,none⟩ u0) (Ge _ ⟨b,1,none⟩ u1)) (Ge _ ⟨b,2,none⟩ u2)) (Ge _ ⟨b,3,none⟩ u3)
theorem A7k {W:World}{b:Nat}{v0 v1 v2 v3:Value}{T:TypeId}(h:W.heap[b]?=some (.cells #[v0,v1,v2,v3] T (0,0)))(u0 u1 u2 u3:Value) :
 ((((W.setCell ⟨b,0,none⟩ u0).setCell ⟨b,1,none⟩ u1).setCell ⟨b,2,none⟩ u2).setCell ⟨b,3,none⟩ u3).heap[b]?=some (.cells #[u0,u1,u2,u3] T (0,0)) :=
 (A7.A0l (w0:={ W with heap:=#[] }) ⟨h,⟨rfl,rfl,rfl,by simp,fun k hk=>by simp at hk⟩⟩ (by simp) u0 u1 u2 u3).blk
theorem Zs (a b c d:Int)(w:World):Calls Vp.prog 166 #[.agg #[.int .i64 a,.int .i64 b,.int .i64 c,.int .i64 d]] w fun e w'=>e=.returned (.func (.func 194) #[] #[.pointer (some ⟨w.heap.size,0,none⟩)])/\w.alloc (.cells #[.int .i64 a,.int .i64 b,.int .i64 c,.int .i64 d] 93)=w':=by
 go_enter Vp.func166,Tryz.ntmps166
 go_wp2
 go_ret
 exact⟨rfl,rfl⟩
def Aj8 (Bc:Nat)(a b c d:Int)(_:Nat)(A:World):Prop:=A.heap[Bc]?=some (.cells #[.int .i64 a,.int .i64 b,.int .i64 c,.int .i64 d] 93 (0,0))
def Al4 (x:Bx)(k:Nat)(v:Array Value):Prop:=∃p q r s:Int,v=#[.int .i64 k,.agg #[.int .i64 p,.int .i64 q,.int .i64 r,.int .i64 s]]/\E7 x k=some ⟨p,q,r,s⟩
theorem Zt (n:Nat)(a b c d:Int)(Bc N:Nat)(hv:Ap a b c d=true)(hn:1<=n)(hN:N<=1048576) :
 A9s Fence.wide n Vp.prog 194 #[.pointer (some ⟨Bc,0,none⟩)] (Al4 ⟨a,b,c,d⟩) (fun k=>E7 ⟨a,b,c,d⟩ k=none) N (Aj8 Bc a b c d):=by
 intro l J Jx W hl hJb hJg hY hJ0;have HV:=Aly hv;clear hv;have hbl:Bc<W.heap.size:=(Alx.1 (hJb 0 W hJ0)).1;have HJA:Hid (∀k A o,J k A->J k (A.alloc o)):=fun k A o h=>hJg k A _ none h (Ans A o none) (fun r e=>by cases e)
 have HJB:Hid (∀k A B,J k A->Below A.heap.size A B->J k B):=fun k A B h hb=>hJg k A B none h (Li hb none) (fun r e=>by cases e)
 have HJS:Hid (∀k A u0 u1 u2 u3,J k A->J k ((((A.setCell ⟨W.heap.size,0,none⟩ u0).setCell ⟨W.heap.size,1,none⟩ u1).setCell ⟨W.heap.size,2,none⟩ u2).setCell ⟨W.heap.size,3,none⟩ u3)):=fun k A u0 u1 u2 u3 h=>hJg k A _ _ h (A4s A W.heap.size u0 u1 u2 u3) (fun r e=>by cases e;exact Am0 _)
 refine callsIn_of_wp Vp.func194 rfl trivial ?_ rfl
 simp only[Tryz.ntmps194,Aoh,Ann,Aou,Nat.reduceAdd,Nat.reduceSub,Aph,Aos,Aq1,Apo,Ant,An9];have hJ1:=HJA.out 0 W (.cells #[.int .i64 0,.int .i64 0,.int .i64 0,.int .i64 0] 93) hJ0;have hZ1:(W.alloc (.cells #[.int .i64 0,.int .i64 0,.int .i64 0,.int .i64 0] 93)).heap[W.heap.size]?=some (.cells #[.int .i64 0,.int .i64 0,.int .i64 0,.int .i64 0] 93 (0,0)):=World.alloc_heap_new W _
 gi_wp2
 gi_loopw [4] (fun i wr=>∃(k:Nat) (p q r s:Int),k<=N/\i=.int .i64 k/\J k wr/\wr.heap[W.heap.size]?=some (.cells #[.int .i64 p,.int .i64 q,.int .i64 r,.int .i64 s] 93 (0,0))/\Hid (E7 ⟨a,b,c,d⟩ k=some ⟨p,q,r,s⟩)) (fun i _=>(N+1-intOf i).toNat)
 case atStart=>exact⟨0,0,0,0,0,Amu _,rfl,hJ1,hZ1,rfl⟩
 case round =>
  clear hJ0 hJ1 hZ1;obtain⟨k,p,q,r,s,hk,rfl,hJ,hZ,HO⟩:=hrel;have Z:A7 wr W.heap.size #[.int .i64 p,.int .i64 q,.int .i64 r,.int .i64 s] 93 wr:=⟨hZ,Amc _ _⟩;have z0:=Z.cell 0 _ rfl;have z1:=Z.cell 1 _ rfl;have z2:=Z.cell 2 _ rfl;have z3:=Z.cell 3 _ rfl;have hlt:=Z.lt;clear Z;have hz:Ap p q r s=true:=Yi HO.out;obtain⟨fn,tmps,assign,body,hy',hR⟩:=hY k _ wr hk ⟨p,q,r,s,rfl,HO.out⟩ hJ;have HSQ:=Aly (Uu p q r s hz);obtain⟨p1,q1,r1,s1,t1,hx1,hok1,hc1⟩:=Gj (Bx.sq ⟨p,q,r,s⟩);rw[hx1]at HSQ;have HAD:=Aly (A42 p1 q1 r1 s1 a b c d hok1 HV.out);obtain⟨p2,q2,r2,s2,t2,hx2,hok2,hc2⟩:=Gj ⟨p1+a,q1+b,r1+c,s1+d⟩;rw[hx2]at HAD;have HC1:=Aly hc1;have HC2:=Aly hc2;have HO1:=Aly hok1;have HO2:=Aly hok2;clear hx1 hx2 hok1 hok2 hc1 hc2 hz
  gi_wp2
  refine hR.mono ?_
  rintro e W3 (⟨rfl,hkN,hal,hJ3⟩ |⟨rfl,hJx⟩)
  ·have Z:A7 W3 W.heap.size #[.int .i64 p,.int .i64 q,.int .i64 r,.int .i64 s] 93 W3:=⟨(hal.blk _ (by omega) hlt).trans hZ,Amc _ _⟩
   have X:A7 W3 Bc #[.int .i64 a,.int .i64 b,.int .i64 c,.int .i64 d] 93 W3:=⟨hJb _ _ hJ3,Amc _ _⟩;clear z0 z1 z2 z3 hJ hZ hy' hR hal;have z0:=Z.cell 0 _ rfl;have z1:=Z.cell 1 _ rfl;have z2:=Z.cell 2 _ rfl;have z3:=Z.cell 3 _ rfl;have HJ:=Aly hJ3;clear hJ3
   gi_wp2_with fail
   refine⟨trivial,?_⟩
   refine(An1.2 (HSQ.out _)).mono ?_
   rintro e w4 ⟨rfl,hb⟩;clear z0 z1 z2 z3;replace X:=X.step hb;replace Z:=Z.step hb;replace HJ:=Aly (HJB.out _ _ _ HJ.out hb);clear hb;have S:=(A7.new w4 #[.int .i64 p1,.int .i64 q1,.int .i64 r1,.int .i64 s1] 93).up X.old;replace X:=X.alloc (.cells #[.int .i64 p1,.int .i64 q1,.int .i64 r1,.int .i64 s1] 93);replace Z:=Z.alloc (.cells #[.int .i64 p1,.int .i64 q1,.int .i64 r1,.int .i64 s1] 93);replace HJ:=Aly (HJA.out _ _ (.cells #[.int .i64 p1,.int .i64 q1,.int .i64 r1,.int .i64 s1] 93) HJ.out);have y0:=S.cell 0 _ rfl;have y1:=S.cell 1 _ rfl;have y2:=S.cell 2 _ rfl;have y3:=S.cell 3 _ rfl;have x0:=X.cell 0 _ rfl;have x1:=X.cell 1 _ rfl;have x2:=X.cell 2 _ rfl;have x3:=X.cell 3 _ rfl
   cases t1 with
   | false =>
     have HE:Hid (E7 ⟨a,b,c,d⟩ (k+1)=none):=by
      show(E7 ⟨a,b,c,d⟩ k).bind _=none
      rw[HO.out]
      exact Il (HC1.out.resolve_left (fun h=>by cases h.1)).2
     clear X Z S
     gi_wp2
     exact Am5 (results_none rfl _ _ _) rfl ⟨⟨_,rfl⟩,.inr ⟨k+1,by omega,HE.out,HJ.out⟩⟩
   | true =>
     gi_wp2_with fail
     refine⟨trivial,?_⟩
     refine(An1.2 (HAD.out _)).mono ?_
     rintro e w5 ⟨rfl,hb⟩;clear x0 x1 x2 x3 y0 y1 y2 y3 S X;replace Z:=Z.step hb;replace HJ:=Aly (HJB.out _ _ _ HJ.out hb);clear hb;have Nn:=(A7.new w5 #[.int .i64 p2,.int .i64 q2,.int .i64 r2,.int .i64 s2] 93).up Z.old;replace Z:=Z.alloc (.cells #[.int .i64 p2,.int .i64 q2,.int .i64 r2,.int .i64 s2] 93);replace HJ:=Aly (HJA.out _ _ (.cells #[.int .i64 p2,.int .i64 q2,.int .i64 r2,.int .i64 s2] 93) HJ.out)
     cases t2 with
     | false =>
       have HE:Hid (E7 ⟨a,b,c,d⟩ (k+1)=none):=by
        show(E7 ⟨a,b,c,d⟩ k).bind _=none
        rw[HO.out]
        exact Im (HC1.out.resolve_right (fun h=>by cases h.1)).2 (HC2.out.resolve_left (fun h=>by cases h.1)).2
       clear Z Nn
       gi_wp2
       exact Am5 (results_none rfl _ _ _) rfl ⟨⟨_,rfl⟩,.inr ⟨k+1,by omega,HE.out,HJ.out⟩⟩
     | true =>
       have HI2:Hid (E7 ⟨a,b,c,d⟩ (k+1)=some ⟨p2,q2,r2,s2⟩):=Ahc HO.out (HC1.out.resolve_right (fun h=>by cases h.1)).2 (HC2.out.resolve_right (fun h=>by cases h.1)).2 HO1.out HO2.out
       have n0:=Nn.cell 0 _ rfl;have n1:=Nn.cell 1 _ rfl;have n2:=Nn.cell 2 _ rfl;have n3:=Nn.cell 3 _ rfl;have z0:=Z.cell 0 _ rfl;have z1:=Z.cell 1 _ rfl;have z2:=Z.cell 2 _ rfl;have z3:=Z.cell 3 _ rfl;have f0:=Z.frozen 0;have f1:=Z.frozen 1;have f2:=Z.frozen 2;have f3:=Z.frozen 3;have HZZ:=Aly Z.blk;clear Z Nn
       gi_wp2
       go_roundw
       case rel=>exact⟨k+1,p2,q2,r2,s2,by omega,by go_num,HJS.out _ _ _ _ _ _ HJ.out,A7k HZZ.out _ _ _ _,HI2⟩
       case measure=>simp[intOf];omega
  ·gi_wp2
   go_end0
   exact⟨⟨_,rfl⟩,.inl ⟨k,hk,hJx⟩⟩
end
section
open Go.RowKit
attribute [local go_sem] Oper.semAt_some
structure Ib (w:World)(lb:Nat)(a b c d:Int)(M k:Nat)(W:World):Prop where
 las:W.heap[lb]?=some (.cells #[.int .i64 M] 3 (0,0))
 par:∃y:Int,W.heap[lb+1]?=some (.cells #[.int .i64 y] 3 (0,0))
 who:W.heap[lb+1+1]?=some (.cells #[.int .i64 (-1)] 3 (0,0))
 Q2:Aj8 (lb+1+1+1) a b c d k W
 no:∀i,i<k->Ld ⟨a,b,c,d⟩ i=false
 old:Below w.heap.size w W
theorem Km {W W':World}{row:Option Nat}{B k:Nat}{o:Obj}(hk:W.heap[k]?=some o)(hg:W.grownBy W' row)(hr:∀r,row=some r->B<=r)(hB:k<B):W'.heap[k]?=some o :=
 (hg.block k (Alx.1 hk).1 (fun e=>by have:=hr k e.symm;omega)).trans hk
theorem Ib.own {w:World}{lb:Nat}{a b c d:Int}{M B:Nat}(hl:w.heap.size<=lb)(hB:lb+1+1+1<B):Xg B (Ib w lb a b c d M):=by
 intro k W W' row h hg hr;obtain⟨y,hp⟩:=h.par
 exact⟨Km h.las hg hr (by omega),⟨y,Km hp hg hr (by omega)⟩,Km h.who hg hr (by omega),Km h.Q2 hg hr hB,h.no,h.old.grown hg h.old.size (fun j e=>by have:=hr j e;omega)⟩
theorem Ib.start {w w1:World}(hb:Below w.heap.size w w1)(a b c d:Int)(M:Nat):Ib w w1.heap.size a b c d M 0 ((((w1.alloc (.cells #[.int .i64 M] 3)).alloc (.cells #[.int .i64 (-1)] 3)).alloc (.cells #[.int .i64 (-1)] 3)).alloc (.cells #[.int .i64 a,.int .i64 b,.int .i64 c,.int .i64 d] 93)):=by
 have new:∀(W:World) (C:Array Value) (t:TypeId),(W.alloc (.cells C t)).heap[W.heap.size]?=some (.cells C t (0,0)):=fun W C t=>World.alloc_heap_new W _
 have far:∀(W:World) (C:Array Value) (t:TypeId) (k:Nat) (o:Obj),W.heap[k]?=some o ->(W.alloc (.cells C t)).heap[k]?=some o:=fun W C t k o h=>(Aow W _ k (Alx.1 h).1).trans h
 have n0:=new w1 #[.int .i64 M] 3;have n1:=new (w1.alloc (.cells #[.int .i64 M] 3)) #[.int .i64 (-1)] 3;have n2:=new ((w1.alloc (.cells #[.int .i64 M] 3)).alloc (.cells #[.int .i64 (-1)] 3)) #[.int .i64 (-1)] 3;have n3:=new (((w1.alloc (.cells #[.int .i64 M] 3)).alloc (.cells #[.int .i64 (-1)] 3)).alloc (.cells #[.int .i64 (-1)] 3)) #[.int .i64 a,.int .i64 b,.int .i64 c,.int .i64 d] 93;simp only[An5]at n1 n2 n3
 refine⟨far _ _ _ _ _ (far _ _ _ _ _ (far _ _ _ _ _ n0)),⟨-1,far _ _ _ _ _ (far _ _ _ _ _ n1)⟩,far _ _ _ _ _ n2,n3,fun j hj=>by omega,?_⟩
 have:=hb.size
 exact(((hb.alloc this _).alloc (by simp;omega) _).alloc (by simp;omega) _).alloc (by simp;omega) _
structure Aj7 (w:World)(lb:Nat)(x:Bx)(M:Nat)(W:World):Prop where
 res:∃y z:Int,W.heap[lb+1]?=some (.cells #[.int .i64 y] 3 (0,0))/\W.heap[lb+1+1]?=some (.cells #[.int .i64 z] 3 (0,0))/\Cn x M z
 old:Below w.heap.size w W
def N0 (w:World)(lb:Nat)(x:Bx)(M:Nat)(cd:Code)(_:Nat)(W:World):Prop:=cd=Code.exit 0/\Aj7 w lb x M W
theorem N0.own {w:World}{lb:Nat}{x:Bx}{M B:Nat}(hl:w.heap.size<=lb)(hB:lb+1+1+1<B)(cd:Code):OwnFrom B (N0 w lb x M cd):=by
 rintro k W W' row ⟨h0,⟨y,z,h1,h2,h3⟩,h4⟩ hg hr;have hr:=fun r e=>(hr r e).1
 exact⟨h0,⟨y,z,Km h1 hg hr (by omega),Km h2 hg hr (by omega),h3⟩,h4.grown hg h4.size (fun j e=>by have:=hr j e;omega)⟩
def Adb (w:World)(lb:Nat)(a b c d n:Int)(M:Nat)(k:Nat)(_:Array Value)(a₁:Act)(W:World):Prop :=
 ∃(tb:Nat) (p q r s:Int),a₁={ tmps:=#[.agg #[.int .i64 a,.int .i64 b,.int .i64 c,.int .i64 d],.int .i64 n,.pointer (some ⟨w.heap.size,0,none⟩),undef,.int .i64 0,.int .i64 0,.bool false,.pointer (some ⟨lb,0,none⟩),.pointer (some ⟨lb+1,0,none⟩),.pointer (some ⟨lb+1+1,0,none⟩),.int .i64 k,.pointer (some ⟨tb,0,none⟩),undef,.agg #[.int .i64 a,.int .i64 b,.int .i64 c,.int .i64 d],.bool true,.bool false,.int .i64 n,.int .i64 M,.agg #[.int .i64 a,.int .i64 b,.int .i64 c,.int .i64 d],.func (.func 194) #[] #[.pointer (some ⟨lb+1+1+1,0,none⟩)],.int .i64 k,.agg #[.int .i64 p,.int .i64 q,.int .i64 r,.int .i64 s],undef,undef,undef,undef,undef,undef,undef,undef,undef,undef,undef,undef,undef,undef,undef,undef,undef,undef,undef,undef],defers:=[] }/\lb+1+1+1<tb/\W.heap[tb]?=some (.cells #[.int .i64 p,.int .i64 q,.int .i64 r,.int .i64 s] 93 (0,0))/\E7 ⟨a,b,c,d⟩ k=some ⟨p,q,r,s⟩/\Ib w lb a b c d M k W
theorem Adb.own {w:World}{lb:Nat}{a b c d n:Int}{M B:Nat}(hl:w.heap.size<=lb)(hB:lb+1+1+1<B)(v:Array Value)(a₁:Act):OwnFrom B (fun k W=>Adb w lb a b c d n M k v a₁ W):=by
 rintro k W W' row ⟨tb,p,q,r,s,h1,h2,h3,h4,h5⟩ hg hr
 exact⟨tb,p,q,r,s,h1,h2,D7 h3 rfl hg (fun r e=>(hr r e).2),h4,(Ib.own hl hB).from k W W' row h5 hg hr⟩
theorem Us (a b c d n:Int)(hv:Ap a b c d=true)(w:World):Calls Vp.prog 130 #[.agg #[.int .i64 a,.int .i64 b,.int .i64 c,.int .i64 d],.int .i64 n] w fun e w'=>(∃(x y:Int),e=.returned (.tuple #[.int .i64 x,.int .i64 y,.bool true])/\Cn ⟨a,b,c,d⟩ (Aj n).toNat y)/\Below w.heap.size w w':=by
 obtain⟨M,hM,hM4⟩:∃M:Nat,Aj n=M/\M<=400:=by
  have:=Gs n
  exact⟨(Aj n).toNat,by omega,by omega⟩
 have HMM:Hid ((Aj n).toNat=M):=by show(Aj n).toNat=M;omega
 rw[HMM.out];have HS:=Aly (Ms n);rw[hM]at HS;have HVA:=Aly (Dx a b c d);rw[hv]at HVA;have HV:=Aly hv;clear hM HMM hv;have X:=A7.new w #[.int .i64 a,.int .i64 b,.int .i64 c,.int .i64 d] 93;have x0:=X.cell 0 _ rfl;have x1:=X.cell 1 _ rfl;have x2:=X.cell 2 _ rfl;have x3:=X.cell 3 _ rfl
 refine(An1 (n:=3)).1 ?_
 refine callsIn_of_wp_marks Vp.func130 rfl trivial ?_ rfl
 simp only[Tryz.ntmps130,Aoh,Ann,Aou,Nat.reduceAdd,Nat.reduceSub,Aph,Aos,Aq1,Apo,Ant,An9]
 gi_wp2_with fail
 refine⟨trivial,?_⟩
 refine(An1.2 (HVA.out _)).mono ?_
 rintro e w1 ⟨rfl,hb⟩;clear x0 x1 x2 x3;replace X:=X.step hb;clear hb
 gi_wp2_with fail
 refine⟨trivial,?_⟩
 refine(An1.2 (HS.out _)).mono ?_
 rintro e w2 ⟨rfl,rfl⟩;obtain⟨lb,hlb⟩:∃lb,w1.heap.size=lb:=⟨_,rfl⟩;have hbw:=X.old;have hXl:w.heap.size<=lb:=by have:=hbw.size;omega
 replace X:=((X.alloc (.cells #[.int .i64 M] 3)).alloc (.cells #[.int .i64 (-1)] 3)).alloc (.cells #[.int .i64 (-1)] 3);have x0:=X.cell 0 _ rfl;have x1:=X.cell 1 _ rfl;have x2:=X.cell 2 _ rfl;have x3:=X.cell 3 _ rfl
 gi_wp2_with fail
 refine⟨trivial,?_⟩
 refine(An1.2 (Zs a b c d _)).mono ?_
 rintro e w2 ⟨rfl,rfl⟩;have H0:=Aly (Ib.start hbw a b c d M);rw[hlb]at H0;clear x0 x1 x2 x3 X
 gi_wp2_with fail
 refine A5i rfl (by decide) (gf:=194) (lb:=#[.pointer (some ⟨lb+1+1+1,0,none⟩)]) ?g0 trivial (enters_of Vp.func194 (by kernel_rfl) rfl)
  (Zt _ a b c d (lb+1+1+1) (M+1) HV.out (by decide) (by omega)) (fun k v h=>by obtain⟨p,q,r,s,rfl,-⟩:=h;rfl) (Ib w lb a b c d M) (N0 w lb ⟨a,b,c,d⟩ M)
  (Ib.own hXl (by simp[hlb])) (N0.own hXl (by simp[hlb])) (fun k A h=>h.Q2) H0.out (Adb w lb a b c d n M) (Adb.own hXl (by simp[hlb]))
  ?assign ?body ?done ?stop
 case g0=>rfl
 case assign =>
  rintro l k v W K hk ⟨p,q,r,s,rfl,ho⟩ h hK;have HK:=Aly hK;have HH:=Aly h;have HO:=Aly ho;clear h ho hK
  gi_wp2
  refine HK.out _ _ ?_ ⟨W.heap.size,p,q,r,s,rfl,?_,World.alloc_heap_new W _,HO.out,?_⟩
  ·exact Bs.grown (Ans W _ none) (fun r e=>by cases e)
  ·exact(Alx.1 HH.out.Q2).1
  ·exact(Ib.own hXl (Aqo _)) k W _ none HH.out (Ans W _ none) (fun r e=>by cases e)
 case body =>
  rintro l k v a₁ W hk-⟨tb,p,q,r,s,rfl,htb,hT,ho,h⟩;obtain⟨y,hp⟩:=h.par;have B0:A7 w lb #[.int .i64 M] 3 W:=⟨h.las,h.old⟩;have c0:=B0.cell 0 _ rfl;clear B0
  by_cases hkm:k=M+1
  ·subst hkm;have HX:Hid (N0 w lb ⟨a,b,c,d⟩ M (Code.exit 0) (M+1) W):=⟨rfl,⟨y,-1,hp,h.who,Cn.full (by omega) h.no⟩,h.old⟩
   clear h hp hT ho
   gi_wp2
   exact⟨Bs.refl _ _,HX.out⟩
  ·have hkM:k<=M:=by omega
   have hk1:((k:Int)<=M):=by omega
   clear hkm;have hz:Ap p q r s=true:=Yi ho;have hzB:=Bx.bd (x:=⟨p,q,r,s⟩) hz;dsimp only at hzB;obtain⟨g1,g2,g3,g4,g5,g6⟩:=hzB;have HSP:=Aly (Eh p q r s);have HNO:=Aly (X4 p q r s (by omega) (by omega) (by omega) (by omega) (by omega) (by omega) (by omega) (by omega))
   obtain⟨lo,elo⟩:∃x,nLo ⟨p,q,r,s⟩=x:=⟨_,rfl⟩;obtain⟨hi,ehi⟩:∃x,nHi ⟨p,q,r,s⟩=x:=⟨_,rfl⟩;rw[elo,ehi]at HNO;have ELO:=Aly elo;clear elo ehi hz g1 g2 g3 g4 g5 g6;have HO:=Aly ho;have T7:A7 w tb #[.int .i64 p,.int .i64 q,.int .i64 r,.int .i64 s] 93 W:=⟨hT,h.old⟩;have t0:=T7.cell 0 _ rfl;have t1:=T7.cell 1 _ rfl;have t2:=T7.cell 2 _ rfl;have t3:=T7.cell 3 _ rfl;clear T7 hT ho hp;have HH:=Aly h;clear h
   gi_wp2_with fail
   refine⟨trivial,?_⟩
   refine(CallsIn.inRound l (An1.2 (HSP.out W))).mono ?_
   rintro e W2 ⟨rfl,hb2⟩
   gi_wp2_with fail
   refine⟨trivial,?_⟩
   refine(CallsIn.inRound l (An1.2 (HNO.out W2))).mono ?_
   rintro e W3 ⟨rfl,hb3⟩;have hb:=hb2.trans (hb3.mono hb2.size);have hI:=Ib.own hXl (Aqo _) k W W3 none HH.out (Li hb none) (fun r e=>by cases e)
   have hlt3:=(Alx.1 hI.Q2).1;have hJ:=hI;have hal:Bs (lb+1+1+1) W W3:=Bs.Tc hb;have HAL:=Aly hal;clear t0 t1 t2 t3 c0 hb2 hb3 hb HH hal;obtain⟨y,hp⟩:=hJ.par;have U:A7 w W3.heap.size #[.int .i64 lo,.int .i64 hi] 202 (W3.alloc (.cells #[.int .i64 lo,.int .i64 hi] 202)):=(A7.new W3 _ _).up hI.old;have B1:A7 w (lb+1) #[.int .i64 y] 3 W3:=⟨hp,hJ.old⟩;have B2:A7 w (lb+1+1) #[.int .i64 (-1)] 3 W3:=⟨hJ.who,hJ.old⟩;have hsz:W3.heap.size <(W3.alloc (.cells #[.int .i64 lo,.int .i64 hi] 202)).heap.size:=U.lt;have hne1:lb+1<W3.heap.size:=by omega
   have hne2:lb+1+1<W3.heap.size:=by omega
   have u0:=U.cell 0 _ rfl;have u1:=U.cell 1 _ rfl;have y0:=B1.cell 0 _ rfl;have f1:=B1.frozen 0;have f2:=B2.frozen 0;have z0:=B2.cell 0 _ rfl;have U':=A7.new (W3.setCell ⟨lb+1,0,none⟩ (.int .i64 k)) #[.int .i64 lo,.int .i64 hi] 202;simp only[World.size_setCell]at U';have v0:=U'.cell 0 _ rfl;have v1:=U'.cell 1 _ rfl;clear U B1 B2 U' hI hp;have HJ:=Aly hJ;clear hJ
   have HS1:Hid (∀W',Ib w lb a b c d M k W'->Ib w lb a b c d M k (W'.setCell ⟨lb+1,0,none⟩ (.int .i64 k))):=fun W' h=>by
    obtain⟨y',hy'⟩:=h.par;have hB:A7 w (lb+1) #[.int .i64 y'] 3 W':=⟨hy',h.old⟩
    refine⟨(An8 _ _ _ _ (by simp<;>omega)).trans h.las,⟨k,(hB.set (by omega) 0 (.int .i64 k)).blk⟩,(An8 _ _ _ _ (by simp<;>omega)).trans h.who,(An8 _ _ _ _ (by simp<;>omega)).trans h.Q2,h.no,h.old.setCell (p:=⟨lb+1,0,none⟩) (by simp;omega) _⟩
   have HS2:Hid (∀W',Ib w lb a b c d M k W' ->(1125899906842624:Int)<lo->N0 w lb ⟨a,b,c,d⟩ M (Code.exit 0) k (W'.setCell ⟨lb+1+1,0,none⟩ (.int .i64 k))):=fun W' h hlo=>by
    obtain⟨y',hy'⟩:=h.par;have hB:A7 w (lb+1+1) #[.int .i64 (-1)] 3 W':=⟨h.who,h.old⟩
    exact⟨rfl,⟨y',k,(An8 _ _ _ _ (by simp<;>omega)).trans hy',(hB.set (by omega) 0 (.int .i64 k)).blk,Cn.hit hkM HO.out (by rw[ELO.out];exact hlo)⟩,h.old.setCell (p:=⟨lb+1+1,0,none⟩) (by simp;omega) _⟩
   have HS3:Hid (∀W',Ib w lb a b c d M k W'->¬(1125899906842624:Int)<lo->Ib w lb a b c d M (k+1) W'):=fun W' h hlo=>by
    refine⟨h.las,h.par,h.who,h.Q2,fun i hi=>?_,h.old⟩
    by_cases e:i=k
    ·rw[e];exact Yj HO.out (by rw[ELO.out];exact hlo)
    ·exact h.no i (by omega)
   have HA1:Hid (∀(W':World) (v:Value),Bs (lb+1+1+1) W' (W'.setCell ⟨lb+1,0,none⟩ v)):=fun W' v=>Bs.grown (Ge W' _ v) (fun r e=>by cases e;show lb+1<_;omega)
   have HA2:Hid (∀(W':World) (v:Value),Bs (lb+1+1+1) W' (W'.setCell ⟨lb+1+1,0,none⟩ v)):=fun W' v=>Bs.grown (Ge W' _ v) (fun r e=>by cases e;show lb+1+1<_;omega)
   have HKA:Hid (∀k W' o,Ib w lb a b c d M k W'->Ib w lb a b c d M k (W'.alloc o)):=fun k W' o h=>Ib.own hXl (Aqo _) k W' _ none h (Ans W' _ none) (fun r e=>by cases e)
   have HXA:Hid (∀k W' o,N0 w lb ⟨a,b,c,d⟩ M (Code.exit 0) k W'->N0 w lb ⟨a,b,c,d⟩ M (Code.exit 0) k (W'.alloc o)):=fun k W' o h=>N0.own hXl (Aqo _) _ k W' _ none h (Ans W' _ none) (fun r e=>by cases e)
   have HA0:Hid (∀(W':World) (o:Obj),Bs (lb+1+1+1) W' (W'.alloc o)):=fun W' o=>Bs.grown (Ans W' _ none) (fun r e=>by cases e)
   by_cases hlo:(1125899906842624:Int)<lo
   ·have HLO:=Aly hlo
    by_cases hy:y<0
    ·by_cases hh:(1125899906842624:Int)<hi
     ·gi_wp2
      exact⟨(((HAL.out.trans (HA1.out _ _)).trans (HA2.out _ _)).trans (HA0.out _ _)).up (by simp[hlb]),HXA.out _ _ _ (HS2.out _ (HS1.out _ HJ.out) HLO.out)⟩
     ·gi_wp2
      exact⟨((HAL.out.trans (HA2.out _ _)).trans (HA0.out _ _)).up (by simp[hlb]),HXA.out _ _ _ (HS2.out _ HJ.out HLO.out)⟩
    ·gi_wp2
     exact⟨((HAL.out.trans (HA2.out _ _)).trans (HA0.out _ _)).up (by simp[hlb]),HXA.out _ _ _ (HS2.out _ HJ.out HLO.out)⟩
   ·have HLO:=Aly hlo
    by_cases hy:y<0
    ·by_cases hh:(1125899906842624:Int)<hi
     ·gi_wp2
      exact⟨((HAL.out.trans (HA1.out _ _)).trans (HA0.out _ _)).up (by simp[hlb]),by omega,HKA.out _ _ _ (HS3.out _ (HS1.out _ HJ.out) HLO.out)⟩
     ·gi_wp2
      exact⟨(HAL.out.trans (HA0.out _ _)).up (by simp[hlb]),by omega,HKA.out _ _ _ (HS3.out _ HJ.out HLO.out)⟩
    ·gi_wp2
     exact⟨(HAL.out.trans (HA0.out _ _)).up (by simp[hlb]),by omega,HKA.out _ _ _ (HS3.out _ HJ.out HLO.out)⟩
 case done =>
  intro D k W hD hk hf h hdef;obtain⟨y,hp⟩:=h.par
  have HL:Hid (Aj7 w lb ⟨a,b,c,d⟩ M W):=⟨⟨y,-1,hp,h.who,.inr ⟨A5h fun i _=>by
   rcases Aqs i k with g|g
   ·exact h.no i g
   ·exact A1n hf i g,rfl⟩⟩,h.old⟩
  clear h hp;obtain⟨⟨y,z,h1,h2,h3⟩,h4⟩:=HL.out;have B1:A7 w (lb+1) #[.int .i64 y] 3 W:=⟨h1,h4⟩;have B2:A7 w (lb+1+1) #[.int .i64 z] 3 W:=⟨h2,h4⟩;have y0:=B1.cell 0 _ rfl;have z0:=B2.cell 0 _ rfl;have HE:=Aly h3;have HO:=Aly h4;clear HL h1 h2 h3 h4 B1 B2
  gi_wp2
  gi_region
  all_goals gi_wp2
  all_goals
   refine⟨by simp,.inl ⟨_,_,rfl,run_takeDeferred (by first|exact hdef|exact(Bp.refl _).drew.heap▸hdef),?_⟩⟩
   refine⟨.tuple #[.int .i64 y,.int .i64 z,.bool true],by simp[results,Tryz.f130,go_sem],?_⟩
   exact⟨⟨y,z,rfl,HE.out⟩,(HO.out.trans ((Bp.refl W).drew.below _)).grown (row:=some D) (grownBy_putObj' _ D _) HO.out.size (fun j e=>by injection e with e;simp[hlb]at hD;omega)⟩
 case stop =>
  rintro D cd k W hD hk ⟨rfl,h⟩ hdef;have HL:=Aly h;clear h;obtain⟨⟨y,z,h1,h2,h3⟩,h4⟩:=HL.out;have B1:A7 w (lb+1) #[.int .i64 y] 3 W:=⟨h1,h4⟩;have B2:A7 w (lb+1+1) #[.int .i64 z] 3 W:=⟨h2,h4⟩;have y0:=B1.cell 0 _ rfl;have z0:=B2.cell 0 _ rfl;have HE:=Aly h3;have HO:=Aly h4;clear HL h1 h2 h3 h4 B1 B2
  gi_wp2
  gi_region
  all_goals gi_wp2
  all_goals
   refine⟨by simp,.inl ⟨_,_,rfl,run_takeDeferred (by first|exact hdef|exact(Bp.refl _).drew.heap▸hdef),?_⟩⟩
   refine⟨.tuple #[.int .i64 y,.int .i64 z,.bool true],by simp[results,Tryz.f130,go_sem],?_⟩
   exact⟨⟨y,z,rfl,HE.out⟩,(HO.out.trans ((Bp.refl W).drew.below _)).grown (row:=some D) (grownBy_putObj' _ D _) HO.out.size (fun j e=>by injection e with e;simp[hlb]at hD;omega)⟩
end
section
open Go.RowKit
theorem A10 (a b c d n:Int)(hv:Ap a b c d=true)(w:World):Calls Vp.prog 85 #[.agg #[.int .i64 a,.int .i64 b,.int .i64 c,.int .i64 d],.int .i64 n] w fun e w'=>e=.returned (.tuple #[.int .i64 (stB ⟨a,b,c,d⟩ (Aj n).toNat),.bool true])/\Below w.heap.size w w':=by
 have HCA:=Aly (A0z a b c d hv);have HDI:=Aly (A11 a b c d hv);have HES:=Aly (Us a b c d n hv);have HST:Hid (∀S,stB ⟨a,b,c,d⟩ (Aj n).toNat=S->S=if Jq ⟨a,b,c,d⟩<=0\/Jv ⟨a,b,c,d⟩<=0 then 1 else if whB ⟨a,b,c,d⟩ (Aj n).toNat=true then -1 else 0):=fun S h=>h.symm
 obtain⟨S,hS⟩:∃S,stB ⟨a,b,c,d⟩ (Aj n).toNat=S:=⟨_,rfl⟩;have HS:=Aly (HST.out S hS);rw[hS];clear hS HST hv;generalize Jq ⟨a,b,c,d⟩=x at *;generalize Jv ⟨a,b,c,d⟩=y at *;have X:=A7.new w #[.int .i64 a,.int .i64 b,.int .i64 c,.int .i64 d] 93;have x0:=X.cell 0 _ rfl;have x1:=X.cell 1 _ rfl;have x2:=X.cell 2 _ rfl;have x3:=X.cell 3 _ rfl
 go_enter Vp.func85,Tryz.ntmps85
 go_wp2_with fail
 refine(HCA.out _).mono ?_
 rintro e w1 ⟨rfl,hb⟩;clear x0 x1 x2 x3;replace X:=X.step hb;clear hb;have x0:=X.cell 0 _ rfl;have x1:=X.cell 1 _ rfl;have x2:=X.cell 2 _ rfl;have x3:=X.cell 3 _ rfl
 go_wp2_with fail
 refine(HDI.out _).mono ?_
 rintro e w2 ⟨rfl,hb⟩;clear x0 x1 x2 x3;replace X:=X.step hb;clear hb;have hs:=HS.out
 by_cases hx:x<=0
 ·rw[Amo (.inl hx)]at hs;subst hs;have HB:=Aly X.old;clear X
  go_wp2
  exact Am5 (v:=.tuple #[.int .i64 1,.bool true]) (by simp[results,Tryz.f85,go_sem]) rfl ⟨rfl,HB.out⟩
 ·by_cases hy:y<=0
  ·rw[Amo (.inr hy)]at hs;subst hs;have HB:=Aly X.old;clear X
   go_wp2
   exact Am5 (v:=.tuple #[.int .i64 1,.bool true]) (by simp[results,Tryz.f85,go_sem]) rfl ⟨rfl,HB.out⟩
  ·rw[Amd (by omega)]at hs
   have x0:=X.cell 0 _ rfl;have x1:=X.cell 1 _ rfl;have x2:=X.cell 2 _ rfl;have x3:=X.cell 3 _ rfl;have hs':=Aly hs;clear hs
   go_wp2_with fail
   refine(HES.out _).mono ?_
   rintro e w3 ⟨⟨u,k,rfl,hk⟩,hb⟩;have HK:=Aly hk;clear hk;have HB:=Aly (X.step hb).old;clear x0 x1 x2 x3 X hb;have hs:=hs'.out;clear hs'
   by_cases hk:k=-1
   ·rw[Amd (by rcases HK.out with h|h;· omega
               ·rw[h.1];simp)]at hs
    subst hs
    go_wp2
    exact Am5 (v:=.tuple #[.int .i64 0,.bool true]) (by simp[results,Tryz.f85,go_sem]) rfl ⟨rfl,HB.out⟩
   ·rw[Amo (by rcases HK.out with h|h;· exact h.1
               ·omega)]at hs
    subst hs
    go_wp2
    exact Am5 (v:=.tuple #[.int .i64 (-1),.bool true]) (by simp[results,Tryz.f85,go_sem]) rfl ⟨rfl,HB.out⟩
end
end Go.Proofs.YtjaehldnlamgkaaGreatDoor
