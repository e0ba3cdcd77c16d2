import Derived.Test.YtlfleicchbgcmaaGreatZq12
import Derived.Conc.Beside
import Derived.Test.YtlfleicchbgcmaaGreatZq0
import Derived.Test.YtlfleicchbgcmaaGreatZqK
set_option linter.all false
set_option maxHeartbeats 16000000
set_option maxRecDepth 100000
namespace Go.Proofs.YtlfleicchbgcmaaGreat
section
open Go.RowKit Co Ok
attribute [local go_sem ↓] Go.wp_at_zero Go.wp_at_succ
attribute [local go_sem] A7 A5
theorem Uy (t:Array Value)(h:t.size=71):∃y0 y1 y2 y3 y4 y5 y6 y7 y8 y9 y10 y11 y12 y13 y14 y15 y16 y17 y18 y19 y20 y21 y22 y23 y24 y25 y26 y27 y28 y29 y30 y31 y32 y33 y34 y35 y36 y37 y38 y39 y40 y41 y42 y43 y44 y45 y46 y47 y48 y49 y50 y51 y52 y53 y54 y55 y56 y57 y58 y59 y60 y61 y62 y63 y64 y65 y66 y67 y68 y69 y70:Value,t=#[y0,y1,y2,y3,y4,y5,y6,y7,y8,y9,y10,y11,y12,y13,y14,y15,y16,y17,y18,y19,y20,y21,y22,y23,y24,y25,y26,y27,y28,y29,y30,y31,y32,y33,y34,y35,y36,y37,y38,y39,y40,y41,y42,y43,y44,y45,y46,y47,y48,y49,y50,y51,y52,y53,y54,y55,y56,y57,y58,y59,y60,y61,y62,y63,y64,y65,y66,y67,y68,y69,y70]:=by
 obtain⟨l⟩:=t;simp only[Ali]at h
 rcases l with _ |⟨y0,l⟩
 ·simp at h
 rcases l with _ |⟨y1,l⟩
 ·simp at h
 rcases l with _ |⟨y2,l⟩
 ·simp at h
 rcases l with _ |⟨y3,l⟩
 ·simp at h
 rcases l with _ |⟨y4,l⟩
 ·simp at h
 rcases l with _ |⟨y5,l⟩
 ·simp at h
 rcases l with _ |⟨y6,l⟩
 ·simp at h
 rcases l with _ |⟨y7,l⟩
 ·simp at h
 rcases l with _ |⟨y8,l⟩
 ·simp at h
 rcases l with _ |⟨y9,l⟩
 ·simp at h
 rcases l with _ |⟨y10,l⟩
 ·simp at h
 rcases l with _ |⟨y11,l⟩
 ·simp at h
 rcases l with _ |⟨y12,l⟩
 ·simp at h
 rcases l with _ |⟨y13,l⟩
 ·simp at h
 rcases l with _ |⟨y14,l⟩
 ·simp at h
 rcases l with _ |⟨y15,l⟩
 ·simp at h
 rcases l with _ |⟨y16,l⟩
 ·simp at h
 rcases l with _ |⟨y17,l⟩
 ·simp at h
 rcases l with _ |⟨y18,l⟩
 ·simp at h
 rcases l with _ |⟨y19,l⟩
 ·simp at h
 rcases l with _ |⟨y20,l⟩
 ·simp at h
 rcases l with _ |⟨y21,l⟩
 ·simp at h
 rcases l with _ |⟨y22,l⟩
 ·simp at h
 rcases l with _ |⟨y23,l⟩
 ·simp at h
 rcases l with _ |⟨y24,l⟩
 ·simp at h
 rcases l with _ |⟨y25,l⟩
 ·simp at h
 rcases l with _ |⟨y26,l⟩
 ·simp at h
 rcases l with _ |⟨y27,l⟩
 ·simp at h
 rcases l with _ |⟨y28,l⟩
 ·simp at h
 rcases l with _ |⟨y29,l⟩
 ·simp at h
 rcases l with _ |⟨y30,l⟩
 ·simp at h
 rcases l with _ |⟨y31,l⟩
 ·simp at h
 rcases l with _ |⟨y32,l⟩
 ·simp at h
 rcases l with _ |⟨y33,l⟩
 ·simp at h
 rcases l with _ |⟨y34,l⟩
 ·simp at h
 rcases l with _ |⟨y35,l⟩
 ·simp at h
 rcases l with _ |⟨y36,l⟩
 ·simp at h
 rcases l with _ |⟨y37,l⟩
 ·simp at h
 rcases l with _ |⟨y38,l⟩
 ·simp at h
 rcases l with _ |⟨y39,l⟩
 ·simp at h
 rcases l with _ |⟨y40,l⟩
 ·simp at h
 rcases l with _ |⟨y41,l⟩
 ·simp at h
 rcases l with _ |⟨y42,l⟩
 ·simp at h
 rcases l with _ |⟨y43,l⟩
 ·simp at h
 rcases l with _ |⟨y44,l⟩
 ·simp at h
 rcases l with _ |⟨y45,l⟩
 ·simp at h
 rcases l with _ |⟨y46,l⟩
 ·simp at h
 rcases l with _ |⟨y47,l⟩
 ·simp at h
 rcases l with _ |⟨y48,l⟩
 ·simp at h
 rcases l with _ |⟨y49,l⟩
 ·simp at h
 rcases l with _ |⟨y50,l⟩
 ·simp at h
 rcases l with _ |⟨y51,l⟩
 ·simp at h
 rcases l with _ |⟨y52,l⟩
 ·simp at h
 rcases l with _ |⟨y53,l⟩
 ·simp at h
 rcases l with _ |⟨y54,l⟩
 ·simp at h
 rcases l with _ |⟨y55,l⟩
 ·simp at h
 rcases l with _ |⟨y56,l⟩
 ·simp at h
 rcases l with _ |⟨y57,l⟩
 ·simp at h
 rcases l with _ |⟨y58,l⟩
 ·simp at h
 rcases l with _ |⟨y59,l⟩
 ·simp at h
 rcases l with _ |⟨y60,l⟩
 ·simp at h
 rcases l with _ |⟨y61,l⟩
 ·simp at h
 rcases l with _ |⟨y62,l⟩
 ·simp at h
 rcases l with _ |⟨y63,l⟩
 ·simp at h
 rcases l with _ |⟨y64,l⟩
 ·simp at h
 rcases l with _ |⟨y65,l⟩
 ·simp at h
 rcases l with _ |⟨y66,l⟩
 ·simp at h
 rcases l with _ |⟨y67,l⟩
 ·simp at h
 rcases l with _ |⟨y68,l⟩
 ·simp at h
 rcases l with _ |⟨y69,l⟩
 ·simp at h
 rcases l with _ |⟨y70,l⟩
 ·simp at h
 rcases l with _ |⟨y,l⟩
 ·exact⟨y0,y1,y2,y3,y4,y5,y6,y7,y8,y9,y10,y11,y12,y13,y14,y15,y16,y17,y18,y19,y20,y21,y22,y23,y24,y25,y26,y27,y28,y29,y30,y31,y32,y33,y34,y35,y36,y37,y38,y39,y40,y41,y42,y43,y44,y45,y46,y47,y48,y49,y50,y51,y52,y53,y54,y55,y56,y57,y58,y59,y60,y61,y62,y63,y64,y65,y66,y67,y68,y69,y70,rfl⟩
 ·simp at h
noncomputable def Bh:Code:=Tryz.f15.body.getD .skip
noncomputable def mR0:Code:=match Bh with|.seq a _=>a|_=>.skip
noncomputable def mR1:Code:=match Bh with|.seq _ (.seq (.seq a _) _)=>a|_=>.skip
noncomputable def mR2:Code:=match Bh with|.seq _ (.seq (.seq _ (.cond _ (.seq a _) _)) _)=>a|_=>.skip
noncomputable def mB:Code:=match Bh with|.seq _ (.seq _ b)=>b|_=>.skip
noncomputable def mR3:Code:=match mB with|.seq a _=>a|_=>.skip
noncomputable def mR4:Code:=match mB with|.seq _ (.seq (.seq a _) _)=>a|_=>.skip
noncomputable def mR5:Code:=match mB with|.seq _ (.seq (.seq _ (.cond _ (.seq a _) _)) _)=>a|_=>.skip
noncomputable def mD:Code:=match mB with|.seq _ (.seq _ b)=>b|_=>.skip
noncomputable def mR6:Code:=match mD with|.seq a _=>a|_=>.skip
noncomputable def mR7:Code:=match mD with|.seq _ (.seq a _)=>a|_=>.skip
noncomputable def mR8:Code:=match mD with|.seq _ (.seq _ (.seq a _))=>a|_=>.skip
noncomputable def mE:Code:=match mD with|.seq _ (.seq _ (.seq _ (.seq _ (.seq _ b))))=>b|_=>.skip
noncomputable def Agf:Code:=match mE with|.seq (.seq a _) _=>a|_=>.skip
noncomputable def Pr:Code:=match mE with|.seq (.seq _ (.block _ (.loop y))) _=>y|_=>.skip
noncomputable def A3e:Code:=match mE with|.seq _ (.seq a _)=>a|_=>.skip
noncomputable def Ac9:Code:=match Pr with|.seq _ (.seq _ (.block _ (.seq a _)))=>a|_=>.skip
noncomputable def Aca:Code:=match Pr with|.seq _ (.seq _ (.block _ (.seq _ (.seq a _))))=>a|_=>.skip
noncomputable def Acb:Code:=match Pr with|.seq _ (.seq _ (.block _ (.seq _ (.seq _ a))))=>a|_=>.skip
noncomputable def mZ:Code:=.seq (.cond (.tmp 56) .skip (.exit 0)) (.block 1 (.seq Ac9 (.seq Aca Acb)))
noncomputable def mY:Code:=.seq (.refuse "12") mZ
noncomputable def mF:Code:=.seq (.seq Agf (.block 0 (.loop mY))) (.seq A3e .ret)
theorem A9r:Hh Tryz.prog 15=Bh:=by kernel_rfl
theorem Om:cut [9,10,12] Bh=.seq mR0 (.seq (.seq mR1 (.cond (.tmp 18) (.seq mR2 .ret) .skip)) (.seq mR3 (.seq (.seq mR4 (.cond (.tmp 32) (.seq mR5 .ret) .skip)) (.seq mR6 (.seq mR7 (.seq mR8 (.seq (.refuse "9") (.seq (.refuse "10") mF)))))))):=by kernel_rfl
structure TX (w:World)(rb ob cx cy d n cap N M gs gm:Nat)(xs:List Nat)(ys:List Int)(W:World):Prop where
 O:A8 w ob (Bu cx cy d n (.slice (some ⟨gs,0,none⟩) N cap) (.slice (some ⟨gm,0,none⟩) M cap)) 35 W
 R:A8 w rb (Bu 0 0 0 0 (.slice none 0 0) (.slice none 0 0)) 35 W
 S:W.ownsRow w.heap.size 74 1 (.slice (some ⟨gs,0,none⟩) N cap) N (xs.map D6)
 M:W.ownsRow w.heap.size 3 1 (.slice (some ⟨gm,0,none⟩) M cap) M (ys.map Av)
 ne:rb≠ob
 hr:w.heap.size<=rb
 ho:w.heap.size<=ob
section
variable {w W W' : World} {rb ob cx cy d n cap N M gs gm : Nat} {xs : List Nat} {ys : List Int}
theorem TX.step (h:TX w rb ob cx cy d n cap N M gs gm xs ys W)(k:Below W.heap.size W W'):TX w rb ob cx cy d n cap N M gs gm xs ys W':=⟨h.O.step k,h.R.step k,Ab h.S k,Ab h.M k,h.ne,h.hr,h.ho⟩
theorem TX.alloc (h:TX w rb ob cx cy d n cap N M gs gm xs ys W)(o:Obj):TX w rb ob cx cy d n cap N M gs gm xs ys (W.alloc o):=h.step ((Aik _ _).alloc (Ai3 _) o)
theorem TX.old (h:TX w rb ob cx cy d n cap N M gs gm xs ys W):Below w.heap.size w W:=h.O.old
theorem TX.oc (h:TX w rb ob cx cy d n cap N M gs gm xs ys W) :
 W.cell? ⟨ob,0,none⟩=some (.complex .f32 cx cy)/\W.cell? ⟨ob,1,none⟩=some (.int .i64 d)/\W.cell? ⟨ob,2,none⟩=some (.int .i64 n)/\W.cell? ⟨ob,3,none⟩=some (.slice (some ⟨gs,0,none⟩) N cap)/\W.cell? ⟨ob,4,none⟩=some (.slice (some ⟨gm,0,none⟩) M cap):=h.O.Aa
theorem TX.rc (h:TX w rb ob cx cy d n cap N M gs gm xs ys W) :
 W.cell? ⟨rb,0,none⟩=some (.complex .f32 0 0)/\W.cell? ⟨rb,1,none⟩=some (.int .i64 0)/\W.cell? ⟨rb,2,none⟩=some (.int .i64 0)/\W.cell? ⟨rb,3,none⟩=some (.slice none 0 0)/\W.cell? ⟨rb,4,none⟩=some (.slice none 0 0):=h.R.Aa
theorem TX.Hv (h:TX w rb ob cx cy d n cap N M gs gm xs ys W){m:Nat}{zs:List Nat}(hown:W'.ownsRow w.heap.size 74 1 (.slice (some ⟨gs,0,none⟩) (N+m) cap) (N+m) (xs.map D6++zs.map D6))(hg:W.grownBy W' (some gs)) :
 TX w rb ob cx cy d n cap (N+m) M gs gm (xs++zs) ys (W'.setCell ⟨ob,3,none⟩ (.slice (some ⟨gs,0,none⟩) (N+m) cap))/\W'.cell? ⟨ob,3,none⟩=some (.slice (some ⟨gs,0,none⟩) N cap)/\W'.frozen? ⟨ob,3,none⟩=false:=by
 have hrow:∀k,some gs=some k->w.heap.size<=k:=fun k hk=>(h.S.lt k hk).1
 have O:=h.O.grown hg (Af h.S h.O.blk (by decide)) hrow
 have R:=h.R.grown hg (Af h.S h.R.blk (by decide)) hrow
 have M:=h.M.kept hg (Cl h.M h.S (by decide))
 refine⟨⟨?_,R.other (p:=⟨ob,3,none⟩) h.ho h.ne _,?_,A6 M O.blk (by decide) _,h.ne,h.hr,h.ho⟩,O.cell 3 _ rfl,O.frozen 3⟩
 ·have:=O.set h.ho 3 (.slice (some ⟨gs,0,none⟩) (N+m) cap)
  exact this
 ·rw[Aj1]
  exact A6 hown O.blk (by decide) _
theorem TX.mark (h:TX w rb ob cx cy d n cap N M gs gm xs ys W){m:Nat}{zs:List Int}(hown:W'.ownsRow w.heap.size 3 1 (.slice (some ⟨gm,0,none⟩) (M+m) cap) (M+m) (ys.map Av++zs.map Av))(hg:W.grownBy W' (some gm)) :
 TX w rb ob cx cy d n cap N (M+m) gs gm xs (ys++zs) (W'.setCell ⟨ob,4,none⟩ (.slice (some ⟨gm,0,none⟩) (M+m) cap))/\W'.cell? ⟨ob,4,none⟩=some (.slice (some ⟨gm,0,none⟩) M cap)/\W'.frozen? ⟨ob,4,none⟩=false:=by
 have hrow:∀k,some gm=some k->w.heap.size<=k:=fun k hk=>(h.M.lt k hk).1
 have O:=h.O.grown hg (Af h.M h.O.blk (by decide)) hrow
 have R:=h.R.grown hg (Af h.M h.R.blk (by decide)) hrow
 have S:=h.S.kept hg (Cl h.S h.M (by decide))
 refine⟨⟨?_,R.other (p:=⟨ob,4,none⟩) h.ho h.ne _,A6 S O.blk (by decide) _,?_,h.ne,h.hr,h.ho⟩,O.cell 4 _ rfl,O.frozen 4⟩
 ·have:=O.set h.ho 4 (.slice (some ⟨gm,0,none⟩) (M+m) cap)
  exact this
 ·rw[Aj1]
  exact A6 hown O.blk (by decide) _
end
structure MA (rb ob:Nat)(ch:Value)(a:Act):Prop where
 size:a.tmps.size=71
 t8:a.tmps[8]?=some (.pointer (some ⟨rb,0,none⟩))
 t11:a.tmps[11]?=some (.pointer (some ⟨ob,0,none⟩))
 t12:a.tmps[12]?=some ch
 t54:a.tmps[54]?=some ch
 ds:a.defers=[]
def Q7 (cx cy d n:Nat)(Cd:Bool)(xs:List Nat)(ys:List Int)(w:World)(t:List Item)(a:Act)(W:World):Prop :=
 ∃rb rest,t=.code .ret :: rest/\a.defers=[]/\a.tmps[8]?=some (.pointer (some ⟨rb,0,none⟩))/\a.tmps[9]?=some (.bool Cd)/\w.heap.size<=rb /\
  if Cd then ∃gs gm,A8 w rb (Bu cx cy d n (.slice (some ⟨gs,0,none⟩) (n*n) (n*n)) (.slice (some ⟨gm,0,none⟩) (n*n) (n*n))) 35 W/\W.ownsRow w.heap.size 74 1 (.slice (some ⟨gs,0,none⟩) (n*n) (n*n)) (n*n) (xs.map D6)/\W.ownsRow w.heap.size 3 1 (.slice (some ⟨gm,0,none⟩) (n*n) (n*n)) (n*n) (ys.map Av)
  else A8 w rb (Bu 0 0 0 0 (.slice none 0 0) (.slice none 0 0)) 35 W
def Za (cx cy d n:Nat)(A4:Int)(w:World)(t:List Item)(a:Act)(W:World):Prop :=
 ∃rb ob gs gm,t=[.code (.refuse "9"), .code (.seq (.refuse "10") mF)]/\a.tmps.size=71/\a.defers=[]/\a.tmps[0]?=some (.complex .f32 cx cy)/\a.tmps[1]?=some (.int .i64 d)/\a.tmps[2]?=some (.int .i64 n)/\a.tmps[3]?=some (.int .i64 A4) /\
  a.tmps[8]?=some (.pointer (some ⟨rb,0,none⟩))/\a.tmps[11]?=some (.pointer (some ⟨ob,0,none⟩))/\TX w rb ob cx cy d n (n*n) 0 0 gs gm [] [] W
theorem Ty (w:World):A8 w w.heap.size (Bu 0 0 0 0 (.slice none 0 0) (.slice none 0 0)) 35 (w.alloc (.cells (Bu 0 0 0 0 (.slice none 0 0) (.slice none 0 0)) 35)):=A8.new w _ _
theorem Agm (h:Array Obj)(a b c e:Obj):((((h.push a).push b).push c).push e)[h.size]?=some a /\((((h.push a).push b).push c).push e)[h.size+1]?=some b /\((((h.push a).push b).push c).push e)[h.size+1+1]?=some c /\((((h.push a).push b).push c).push e)[h.size+1+1+1]?=some e:=by
 refine⟨?_,?_,?_,?_⟩
 ·rw[Aie,Aid (by simp only[Am0];omega)];exact(Wf _ _ _ _).1
 ·rw[Aie,Aid (by simp only[Am0];omega)];exact(Wf _ _ _ _).2.1
 ·rw[Aie,Aid (by simp)];exact(Wf _ _ _ _).2.2
 ·rw[Aie,Aij (by simp)]
theorem TX.start (w:World)(cx cy d n:Nat){cF cI:Array Value}(hF:cF.size=n*n*1)(hI:cI.size=n*n*1)(hm:n*n<=maxLen) :
 TX w w.heap.size (w.heap.size+1) cx cy d n (n*n) 0 0 (w.heap.size+1+1) (w.heap.size+1+1+1) [] [] ((((w.alloc (.cells (Bu 0 0 0 0 (.slice none 0 0) (.slice none 0 0)) 35)).alloc (.cells (Bu cx cy d n (.slice (some ⟨w.heap.size+1+1,0,none⟩) 0 (n*n)) (.slice (some ⟨w.heap.size+1+1+1,0,none⟩) 0 (n*n))) 35)).alloc (.cells cF 74)).alloc (.cells cI 3)):=by
 have hb:Below w.heap.size w ((((w.alloc (.cells (Bu 0 0 0 0 (.slice none 0 0) (.slice none 0 0)) 35)).alloc (.cells (Bu cx cy d n (.slice (some ⟨w.heap.size+1+1,0,none⟩) 0 (n*n)) (.slice (some ⟨w.heap.size+1+1+1,0,none⟩) 0 (n*n))) 35)).alloc (.cells cF 74)).alloc (.cells cI 3)) :=
  ((((Aik _ _).alloc (Ai3 _) _).alloc (by simp) _).alloc (by simp;omega) _).alloc (by simp;omega) _
 have hp:=Agm w.heap (.cells (Bu 0 0 0 0 (.slice none 0 0) (.slice none 0 0)) 35) (.cells (Bu cx cy d n (.slice (some ⟨w.heap.size+1+1,0,none⟩) 0 (n*n)) (.slice (some ⟨w.heap.size+1+1+1,0,none⟩) 0 (n*n))) 35) (.cells cF 74) (.cells cI 3)
 refine⟨⟨hp.2.1,hb⟩,⟨hp.1,hb⟩,⟨by simp,.inr ⟨_,_,cF,rfl,by omega,hp.2.2.1,Aj9 _,hm,hF,by simp⟩⟩,⟨by simp,.inr ⟨_,_,cI,rfl,by omega,hp.2.2.2,Aj9 _,hm,hI,by simp⟩⟩,by omega,by omega,by omega⟩
section
variable {cx cy d n : Nat} {A4 : Int}
theorem A32 {deep size:Int}(h:∀W,Calls Vp.prog 31 #[.complex .f32 cx cy,.int .i64 deep,.int .i64 size] W fun e w'=>e=.returned (.bool false)/\W=w')(y4 y5 y6 y7 y8 y9 y10 y11 y12 y13 y14 y15 y16 y17 y18 y19 y20 y21 y22 y23 y24 y25 y26 y27 y28 y29 y30 y31 y32 y33 y34 y35 y36 y37 y38 y39 y40 y41 y42 y43 y44 y45 y46 y47 y48 y49 y50 y51 y52 y53 y54 y55 y56 y57 y58 y59 y60 y61 y62 y63 y64 y65 y66 y67 y68 y69 y70:Value)(w:World)(xs:List Nat)(ys:List Int) :
 HW Vp.prog [.code (cut [9,10,12] Bh)] (Q7 cx cy d n false xs ys w) ⟨#[(.complex .f32 cx cy),(.int .i64 deep),(.int .i64 size),(.int .i64 A4),y4,y5,y6,y7,y8,y9,y10,y11,y12,y13,y14,y15,y16,y17,y18,y19,y20,y21,y22,y23,y24,y25,y26,y27,y28,y29,y30,y31,y32,y33,y34,y35,y36,y37,y38,y39,y40,y41,y42,y43,y44,y45,y46,y47,y48,y49,y50,y51,y52,y53,y54,y55,y56,y57,y58,y59,y60,y61,y62,y63,y64,y65,y66,y67,y68,y69,y70],[]⟩ w:=by
 rw[Om]
 refine .seq (.El ?_)
 unfold mR0;(try unfold Pr);(try unfold mE);(try unfold mD);(try unfold mB);unfold Bh Tryz.f15;dsimp only[Option.getD]
 go_wp2
 show HW _ _ _ _ _
 refine .seq (.seq (.El ?_))
 unfold mR1;(try unfold Pr);(try unfold mE);(try unfold mD);(try unfold mB);unfold Bh Tryz.f15;dsimp only[Option.getD]
 go_wp2_with (go_at_call 31;refine(h _).mono ?_;rintro e w1 ⟨rfl,rfl⟩)
 show HW _ _ _ _ _
 refine .cond (t:=true) rfl (.seq (.El ?_))
 unfold mR2;(try unfold Pr);(try unfold mE);(try unfold mD);(try unfold mB);unfold Bh Tryz.f15;dsimp only[Option.getD]
 go_wp2
 exact .stop ⟨w.heap.size,_,rfl,rfl,rfl,rfl,Ai3 _,by rw[Aid (by simp)];exact Ty w⟩
theorem Aei {ex ey:Nat}(h:∀W,Calls Vp.prog 31 #[.complex .f32 cx cy,.int .i64 d,.int .i64 n] W fun e w'=>e=.returned (.bool true)/\W=w')(hp:∀W,Calls Vp.prog 32 #[.complex .f32 cx cy,.int .i64 d,.int .i64 n,.int .i64 n] W fun e w'=>e=.returned (.complex .f32 ex ey)/\W=w')
 (hf:(FloatKind.f32.format.order ex 1090519040 == some .gt || FloatKind.f32.format.order ey 1090519040 == some .gt)=true) (y4 y5 y6 y7 y8 y9 y10 y11 y12 y13 y14 y15 y16 y17 y18 y19 y20 y21 y22 y23 y24 y25 y26 y27 y28 y29 y30 y31 y32 y33 y34 y35 y36 y37 y38 y39 y40 y41 y42 y43 y44 y45 y46 y47 y48 y49 y50 y51 y52 y53 y54 y55 y56 y57 y58 y59 y60 y61 y62 y63 y64 y65 y66 y67 y68 y69 y70:Value) (w:World) (xs:List Nat) (ys:List Int) :
 HW Vp.prog [.code (cut [9,10,12] Bh)] (Q7 cx cy d n false xs ys w) ⟨#[(.complex .f32 cx cy),(.int .i64 d),(.int .i64 n),(.int .i64 A4),y4,y5,y6,y7,y8,y9,y10,y11,y12,y13,y14,y15,y16,y17,y18,y19,y20,y21,y22,y23,y24,y25,y26,y27,y28,y29,y30,y31,y32,y33,y34,y35,y36,y37,y38,y39,y40,y41,y42,y43,y44,y45,y46,y47,y48,y49,y50,y51,y52,y53,y54,y55,y56,y57,y58,y59,y60,y61,y62,y63,y64,y65,y66,y67,y68,y69,y70],[]⟩ w:=by
 rw[Om]
 refine .seq (.El ?_)
 unfold mR0;(try unfold Pr);(try unfold mE);(try unfold mD);(try unfold mB);unfold Bh Tryz.f15;dsimp only[Option.getD]
 go_wp2
 show HW _ _ _ _ _
 refine .seq (.seq (.El ?_))
 unfold mR1;(try unfold Pr);(try unfold mE);(try unfold mD);(try unfold mB);unfold Bh Tryz.f15;dsimp only[Option.getD]
 go_wp2_with (go_at_call 31;refine(h _).mono ?_;rintro e w1 ⟨rfl,rfl⟩)
 show HW _ _ _ _ _
 refine .cond (t:=false) rfl (.skip (.seq (.El ?_)))
 unfold mR3;(try unfold Pr);(try unfold mE);(try unfold mD);(try unfold mB);unfold Bh Tryz.f15;dsimp only[Option.getD]
 go_wp2_with (go_at_call 32;refine(hp _).mono ?_;rintro e w1 ⟨rfl,rfl⟩)
 show HW _ _ _ _ _
 refine .seq (.seq (.El ?_))
 cases h1:(FloatKind.f32.format.order ex 1090519040 == some .gt)with
 | true =>
   unfold mR4;(try unfold Pr);(try unfold mE);(try unfold mD);(try unfold mB);unfold Bh Tryz.f15;dsimp only[Option.getD]
   go_wp2
   show HW _ _ _ _ _
   refine .cond (t:=true) rfl (.seq (.El ?_))
   unfold mR5;(try unfold Pr);(try unfold mE);(try unfold mD);(try unfold mB);unfold Bh Tryz.f15;dsimp only[Option.getD]
   go_wp2
   exact .stop ⟨w.heap.size,_,rfl,rfl,rfl,rfl,Ai3 _,by rw[Aid (by simp)];exact Ty w⟩
 | false =>
   rw[h1,Bool.false_or]at hf;unfold mR4;(try unfold Pr);(try unfold mE);(try unfold mD);(try unfold mB);unfold Bh Tryz.f15;dsimp only[Option.getD]
   go_wp2
   show HW _ _ _ _ _
   refine .cond (t:=true) rfl (.seq (.El ?_))
   unfold mR5;(try unfold Pr);(try unfold mE);(try unfold mD);(try unfold mB);unfold Bh Tryz.f15;dsimp only[Option.getD]
   go_wp2
   exact .stop ⟨w.heap.size,_,rfl,rfl,rfl,rfl,Ai3 _,by rw[Aid (by simp)];exact Ty w⟩
theorem Ac3 {ex ey:Nat}(hn:n<=8)(h:∀W,Calls Vp.prog 31 #[.complex .f32 cx cy,.int .i64 d,.int .i64 n] W fun e w'=>e=.returned (.bool true)/\W=w')(hp:∀W,Calls Vp.prog 32 #[.complex .f32 cx cy,.int .i64 d,.int .i64 n,.int .i64 n] W fun e w'=>e=.returned (.complex .f32 ex ey)/\W=w')
 (hf1:(FloatKind.f32.format.order ex 1090519040 == some .gt)=false) (hf2:(FloatKind.f32.format.order ey 1090519040 == some .gt)=false) (y4 y5 y6 y7 y8 y9 y10 y11 y12 y13 y14 y15 y16 y17 y18 y19 y20 y21 y22 y23 y24 y25 y26 y27 y28 y29 y30 y31 y32 y33 y34 y35 y36 y37 y38 y39 y40 y41 y42 y43 y44 y45 y46 y47 y48 y49 y50 y51 y52 y53 y54 y55 y56 y57 y58 y59 y60 y61 y62 y63 y64 y65 y66 y67 y68 y69 y70:Value) (w:World) :
 HW Vp.prog [.code (cut [9,10,12] Bh)] (Za cx cy d n A4 w) ⟨#[(.complex .f32 cx cy),(.int .i64 d),(.int .i64 n),(.int .i64 A4),y4,y5,y6,y7,y8,y9,y10,y11,y12,y13,y14,y15,y16,y17,y18,y19,y20,y21,y22,y23,y24,y25,y26,y27,y28,y29,y30,y31,y32,y33,y34,y35,y36,y37,y38,y39,y40,y41,y42,y43,y44,y45,y46,y47,y48,y49,y50,y51,y52,y53,y54,y55,y56,y57,y58,y59,y60,y61,y62,y63,y64,y65,y66,y67,y68,y69,y70],[]⟩ w:=by
 obtain⟨iF,hiF,hzF0,hzF1,hzF2⟩:=Ajw Vl;obtain⟨iI,hiI,hzI0,hzI1,hzI2⟩:=Ajw Po;have hnn:n*n<=64:=Ajm hn hn;obtain⟨N,hN⟩:∃N,n*n=N:=⟨_,rfl⟩;rw[hN]at hnn;have hN2:((N:Nat):Int)=(n:Int)*n:=by rw[<-Aj3,hN]
 obtain⟨cF,hcF,hF⟩:=F7 (P:=Vp.prog) 33 74 iF _ (Vp.Di Tryz.underlying33) hiF hzF0 N (by omega) (by omega)
 obtain⟨cI,hcI,hI⟩:=F7 (P:=Vp.prog) 27 3 iI _ (Vp.Di Tryz.underlying27) hiI hzI0 N (by omega) (by omega)
 rw[hzF1]at hcF;rw[hzI1]at hcI;rw[hN2]at hF hI;clear hiF hzF0 hzF1 hzF2 hiI hzI0 hzI1 hzI2 hN2;rw[Om]
 refine .seq (.El ?_)
 unfold mR0;(try unfold Pr);(try unfold mE);(try unfold mD);(try unfold mB);unfold Bh Tryz.f15;dsimp only[Option.getD]
 go_wp2
 show HW _ _ _ _ _
 refine .seq (.seq (.El ?_))
 unfold mR1;(try unfold Pr);(try unfold mE);(try unfold mD);(try unfold mB);unfold Bh Tryz.f15;dsimp only[Option.getD]
 go_wp2_with (go_at_call 31;refine(h _).mono ?_;rintro e w1 ⟨rfl,rfl⟩)
 show HW _ _ _ _ _
 refine .cond (t:=false) rfl (.skip (.seq (.El ?_)))
 unfold mR3;(try unfold Pr);(try unfold mE);(try unfold mD);(try unfold mB);unfold Bh Tryz.f15;dsimp only[Option.getD]
 go_wp2_with (go_at_call 32;refine(hp _).mono ?_;rintro e w1 ⟨rfl,rfl⟩)
 show HW _ _ _ _ _
 refine .seq (.seq (.El ?_))
 unfold mR4;(try unfold Pr);(try unfold mE);(try unfold mD);(try unfold mB);unfold Bh Tryz.f15;dsimp only[Option.getD]
 go_wp2
 show HW _ _ _ _ _
 refine .cond (t:=false) rfl (.skip (.seq (.El ?_)))
 unfold mR6;(try unfold Pr);(try unfold mE);(try unfold mD);(try unfold mB);unfold Bh Tryz.f15;dsimp only[Option.getD]
 go_wp2
 show HW _ _ _ _ _
 refine .seq (.El ?_)
 unfold mR7;(try unfold Pr);(try unfold mE);(try unfold mD);(try unfold mB);unfold Bh Tryz.f15;dsimp only[Option.getD]
 go_wp2
 show HW _ _ _ _ _
 refine .seq (.El ?_)
 unfold mR8;(try unfold Pr);(try unfold mE);(try unfold mD);(try unfold mB);unfold Bh Tryz.f15;dsimp only[Option.getD]
 go_wp2
 show HW _ _ _ _ _
 clear hF hI;subst hN
 exact .seq (.stop ⟨w.heap.size,w.heap.size+1,w.heap.size+1+1,w.heap.size+1+1+1,rfl,rfl,rfl,rfl,rfl,rfl,rfl,rfl,rfl,TX.start w cx cy d n hcF hcI (by unfold maxLen;omega)⟩)
def H12 (cx cy d n rb ob:Nat)(ch:Value)(gs gm N:Nat)(xs:List Nat)(ys:List Int)(w:World)(t:List Item)(a:Act)(W:World):Prop :=
 t=[.code (.refuse "12"), .code mZ,.inLoop mY,.inBlock 0,.code (.seq A3e .ret)]/\MA rb ob ch a/\TX w rb ob cx cy d n (n*n) N N gs gm xs ys W
theorem A9c {rb ob gs gm N:Nat}{ch:Value}{xs:List Nat}{ys:List Int}{a:Act}{w W:World}(hs:a.tmps.size=71)(h8:a.tmps[8]?=some (.pointer (some ⟨rb,0,none⟩)))(h11:a.tmps[11]?=some (.pointer (some ⟨ob,0,none⟩)))(h12:a.tmps[12]?=some ch)(hd:a.defers=[])
 (T:TX w rb ob cx cy d n (n*n) N N gs gm xs ys W):HW Vp.prog [.code mF] (H12 cx cy d n rb ob ch gs gm N xs ys w) a W:=by
 obtain⟨t,ds⟩:=a;dsimp only at hs h8 h11 h12 hd;obtain⟨y0,y1,y2,y3,y4,y5,y6,y7,y8,y9,y10,y11,y12,y13,y14,y15,y16,y17,y18,y19,y20,y21,y22,y23,y24,y25,y26,y27,y28,y29,y30,y31,y32,y33,y34,y35,y36,y37,y38,y39,y40,y41,y42,y43,y44,y45,y46,y47,y48,y49,y50,y51,y52,y53,y54,y55,y56,y57,y58,y59,y60,y61,y62,y63,y64,y65,y66,y67,y68,y69,y70,rfl⟩:=Uy t hs
 cases h8;cases h11;cases h12;subst hd
 unfold mF
 refine .seq (.seq (.El ?_))
 unfold Agf;(try unfold Pr);(try unfold mE);(try unfold mD);(try unfold mB);unfold Bh Tryz.f15;dsimp only[Option.getD]
 go_wp2
 show HW _ _ _ _ _
 refine .block (.loop ?_)
 have hY:Item.code mY=Item.code (.seq (.refuse "12") mZ):=rfl;rw[hY]
 exact .seq (.stop ⟨rfl,⟨rfl,rfl,rfl,rfl,rfl,rfl⟩,T⟩)
theorem Ac4 {rb ob gs gm N sb mb:Nat}{ch:Value}{xs zs:List Nat}{ys us:List Int}{a:Act}{w W:World}(hn:n<=8)(hN:N+n<=n*n)(h:MA rb ob ch a)(h55:a.tmps[55]?=some (.tuple #[.agg #[.slice (some ⟨sb,0,none⟩) n n,.slice (some ⟨mb,0,none⟩) n n],.bool true]))(h56:a.tmps[56]?=some (.bool true))
 (T:TX w rb ob cx cy d n (n*n) N N gs gm xs ys W) (hz:zs.length=n) (hu:us.length=n) {fz fu:Nat×Nat} (hsb:W.heap[sb]?=some (.cells (zs.map D6).toArray 74 fz)) (hmb:W.heap[mb]?=some (.cells (us.map Av).toArray 3 fu)) (hso:sb≠gs/\sb≠ob) (hmo:mb≠gs/\mb≠gm/\mb≠ob) :
 HW Vp.prog [.code mZ,.inLoop mY,.inBlock 0,.code (.seq A3e .ret)] (H12 cx cy d n rb ob ch gs gm (N+n) (xs++zs) (ys++us) w) a W:=by
 obtain⟨iF,hiF,hzF0,hzF1,hzF2⟩:=Ajw Vl;obtain⟨iI,hiI,hzI0,hzI1,hzI2⟩:=Ajw Po;obtain⟨t,ds⟩:=a;obtain⟨hs,h8,h11,h12,h54,hd⟩:=h;dsimp only at hs h8 h11 h12 h54 hd h55 h56;obtain⟨y0,y1,y2,y3,y4,y5,y6,y7,y8,y9,y10,y11,y12,y13,y14,y15,y16,y17,y18,y19,y20,y21,y22,y23,y24,y25,y26,y27,y28,y29,y30,y31,y32,y33,y34,y35,y36,y37,y38,y39,y40,y41,y42,y43,y44,y45,y46,y47,y48,y49,y50,y51,y52,y53,y54,y55,y56,y57,y58,y59,y60,y61,y62,y63,y64,y65,y66,y67,y68,y69,y70,rfl⟩:=Uy t hs
 cases h8;cases h11;cases h12;cases h54;cases h55;cases h56;subst hd
 have hsz:=(Ai2.1 hsb).1;have hmz:=(Ai2.1 hmb).1;have HT1:=Ai1 (T.alloc (.cells #[.slice (some ⟨sb,0,none⟩) n n,.slice (some ⟨mb,0,none⟩) n n] 78));have HB1:=Ai1 ((A8.new W #[.slice (some ⟨sb,0,none⟩) n n,.slice (some ⟨mb,0,none⟩) n n] 78).up (w0:=w) T.old);have hs1:(W.alloc (.cells #[.slice (some ⟨sb,0,none⟩) n n,.slice (some ⟨mb,0,none⟩) n n] 78)).heap[sb]?=some (.cells (zs.map D6).toArray 74 fz):=by rw[Xz,Aie,Aid (by omega)];exact hsb
 have hm1:(W.alloc (.cells #[.slice (some ⟨sb,0,none⟩) n n,.slice (some ⟨mb,0,none⟩) n n] 78)).heap[mb]?=some (.cells (us.map Av).toArray 3 fu):=by rw[Xz,Aie,Aid (by omega)];exact hmb
 have hrk:w.heap.size<=W.heap.size:=T.old.size;have hko:ob≠W.heap.size:=by have:=T.O.lt;omega
 clear T hsb hmb;have hZ:Item.code mZ=Item.code (.seq (.cond (.tmp 56) .skip (.exit 0)) (.block 1 (.seq Ac9 (.seq Aca Acb)))):=rfl;rw[hZ]
 refine .seq (.cond (t:=true) rfl (.skip (.block (.seq (.El ?_)))))
 unfold Ac9;(try unfold Pr);(try unfold mE);(try unfold mD);(try unfold mB);unfold Bh Tryz.f15;dsimp only[Option.getD]
 go_wp2
 show HW _ _ _ _ _
 refine .seq (.El ?_)
 generalize W.alloc (.cells #[.slice (some ⟨sb,0,none⟩) n n,.slice (some ⟨mb,0,none⟩) n n] 78)=W1 at *;generalize W.heap.size=rk at *;obtain⟨-,-,-,k3,-⟩:=HT1.out.oc;have r0:=HB1.out.cell 0 _ rfl;unfold Aca;(try unfold Pr);(try unfold mE);(try unfold mD);(try unfold mB);unfold Bh Tryz.f15;dsimp only[Option.getD]
 go_wp2_with (at_builtin;refine wpList_append_own_spare _ rfl _ _ _ rfl w.heap.size 74 iF 1 (Vp.Di Tryz.underlying33) hiF hzF1 gs N (n*n) (xs.map D6) rfl HT1.out.S ⟨sb,0,none⟩ n n (zs.map D6) rfl (by simp[hz]) (World.news_of_block (cs:=(zs.map D6).toArray) (t:=74) (fr:=fz) hs1) (by intro u hu;obtain⟨x,_,rfl⟩:=Aj5.1 hu;rfl) hN ?_;intro w6 hown hgrow;obtain⟨T6,k6,f6⟩:=HT1.out.Hv hown hgrow;have HT6:=Ai1 T6;have HG:=Ai1 hgrow;clear T6 hown hgrow)
 show HW _ _ _ _ _
 refine .El ?_
 have hrow:∀k,some gs=some k->w.heap.size<=k:=fun k hk=>(HT1.out.S.lt k hk).1
 have HB6:=Ai1 (((HB1.out.grown HG.out (Af HT1.out.S HB1.out.blk (by decide)) hrow).other (p:=⟨ob,3,none⟩) HT1.out.ho (Akx hko) (.slice (some ⟨gs,0,none⟩) (N+n) (n*n))))
 have hm6:(w6.setCell ⟨ob,3,none⟩ (.slice (some ⟨gs,0,none⟩) (N+n) (n*n))).heap[mb]?=some (.cells (us.map Av).toArray 3 fu):=by
  rw[Aju _ _ _ _ hmo.2.2,HG.out.block mb (Ai2.1 hm1).1 (fun e=>hmo.1 (Ajo e))]
  exact hm1
 clear HB1 HG hs1 hm1 HT1 k3 r0 k6 f6;generalize w6.setCell ⟨ob,3,none⟩ (.slice (some ⟨gs,0,none⟩) (N+n) (n*n))=W7 at *;obtain⟨-,-,-,-,k4⟩:=HT6.out.oc;have r1:=HB6.out.cell 1 _ rfl;unfold Acb;(try unfold Pr);(try unfold mE);(try unfold mD);(try unfold mB);unfold Bh Tryz.f15;dsimp only[Option.getD]
 go_wp2_with (at_builtin;refine wpList_append_own_spare _ rfl _ _ _ rfl w.heap.size 3 iI 1 (Vp.Di Tryz.underlying27) hiI hzI1 gm N (n*n) (ys.map Av) rfl HT6.out.M ⟨mb,0,none⟩ n n (us.map Av) rfl (by simp[hu]) (World.news_of_block (cs:=(us.map Av).toArray) (t:=3) (fr:=fu) hm6) (by intro u hu;obtain⟨x,_,rfl⟩:=Aj5.1 hu;rfl) hN ?_;intro w8 hown hgrow;obtain⟨T8,k8,f8⟩:=HT6.out.mark hown hgrow;have HT8:=Ai1 T8;clear T8 hown hgrow)
 show HW _ _ _ _ _
 refine .inBlock (.inLoop ?_)
 have hY:Item.code mY=Item.code (.seq (.refuse "12") mZ):=rfl;rw[hY]
 exact .seq (.stop ⟨rfl,⟨rfl,rfl,rfl,rfl,rfl,rfl⟩,HT8.out⟩)
theorem Ac2 {rb ob gs gm:Nat}{ch v0:Value}{xs:List Nat}{ys:List Int}{a:Act}{w W:World}(h:MA rb ob ch a)(h55:a.tmps[55]?=some v0)(h56:a.tmps[56]?=some (.bool false))
 (T:TX w rb ob cx cy d n (n*n) (n*n) (n*n) gs gm xs ys W) :
 HW Vp.prog [.code mZ,.inLoop mY,.inBlock 0,.code (.seq A3e .ret)] (Q7 cx cy d n true xs ys w) a W:=by
 obtain⟨t,ds⟩:=a;obtain⟨hs,h8,h11,h12,h54,hd⟩:=h;dsimp only at hs h8 h11 h12 h54 hd h55 h56;obtain⟨y0,y1,y2,y3,y4,y5,y6,y7,y8,y9,y10,y11,y12,y13,y14,y15,y16,y17,y18,y19,y20,y21,y22,y23,y24,y25,y26,y27,y28,y29,y30,y31,y32,y33,y34,y35,y36,y37,y38,y39,y40,y41,y42,y43,y44,y45,y46,y47,y48,y49,y50,y51,y52,y53,y54,y55,y56,y57,y58,y59,y60,y61,y62,y63,y64,y65,y66,y67,y68,y69,y70,rfl⟩:=Uy t hs
 cases h8;cases h11;cases h12;cases h54;cases h55;cases h56;subst hd
 have HT:=Ai1 T;obtain⟨o0,o1,o2,o3,o4⟩:=T.oc;obtain⟨c0,c1,c2,c3,c4⟩:=T.rc;obtain⟨f0,f1,f2,f3,f4⟩:=T.R.E7;have hne:=T.ne;have hr:=T.hr;clear T;have hZ:Item.code mZ=Item.code (.seq (.cond (.tmp 56) .skip (.exit 0)) (.block 1 (.seq Ac9 (.seq Aca Acb)))):=rfl;rw[hZ]
 refine .seq (.cond (t:=false) rfl (.exit (s':=[.code (.seq A3e .ret)]) rfl (.seq (.El ?_))))
 unfold A3e;(try unfold Pr);(try unfold mE);(try unfold mD);(try unfold mB);unfold Bh Tryz.f15;dsimp only[Option.getD]
 go_wp2
 show HW _ _ _ _ _
 refine .stop ⟨rb,_,rfl,rfl,rfl,rfl,hr,?_⟩
 rw[Aij rfl];have b0:=HT.out.R;have b1:=b0.set hr 0 (.complex .f32 cx cy);have b2:=b1.set hr 1 (.int .i64 d);have b3:=b2.set hr 2 (.int .i64 n);have b4:=b3.set hr 3 (.slice (some ⟨gs,0,none⟩) (n*n) (n*n));have b5:=b4.set hr 4 (.slice (some ⟨gm,0,none⟩) (n*n) (n*n))
 refine⟨gs,gm,b5,?_,?_⟩
 ·exact A6 (A6 (A6 (A6 (A6 HT.out.S b0.blk (by decide) _) b1.blk (by decide) _) b2.blk (by decide) _) b3.blk (by decide) _) b4.blk (by decide) _
 ·exact A6 (A6 (A6 (A6 (A6 HT.out.M b0.blk (by decide) _) b1.blk (by decide) _) b2.blk (by decide) _) b3.blk (by decide) _) b4.blk (by decide) _
end
end
namespace Lr
open Go.Conc
structure Alike (X X':Cx):Prop where
 C:X'.C=X.C
 M:X'.M=X.M
 As:X'.As=X.As
 T:X'.T=X.T
 K:X'.K=X.K
 D:X'.D=X.D
 G:X'.G=X.G
 N:X'.N=X.N
 R:X'.R=X.R
 Dn:X'.Dn=X.Dn
 L:X'.L=X.L
 Mv:X'.Mv=X.Mv
 Z:X'.Z=X.Z
 Ar:X'.Ar=X.Ar
section
variable {X X' : Cx} {B : Lk} (A : Alike X X')
include A
theorem E2.cx {a a':Addr}(h:E2 X B a a'):E2 X' B a a':=⟨⟨h.1.1,by rw[A.D];exact h.1.2⟩,by rw[A.L];exact h.2⟩
theorem FnR.cx {f f':Fn}(h:FnR X B f f'):FnR X' B f f':=by
 cases h with
 | func f c t=>exact .func f (by rw[A.C];exact c) (by rw[A.T];exact t)
 | method n c=>exact .method n (by rw[A.M];exact c)
 | methodOf t n c=>exact .methodOf t n (by rw[A.M];exact c)
 | yield l l' c=>exact .yield l l' c
theorem VR.cx {v v':Value}(h:VR X B v v'):VR X' B v v':=by
 induction h with
 | bool b=>exact .bool b
 | int k n=>exact .int k n
 | float k n=>exact .float k n
 | complex k n m=>exact .complex k n m
 | string s=>exact .string s
 | Qg=>exact .Qg
 | ptr a=>exact .ptr (a.cx A)
 | Kv l c=>exact .Kv l c
 | slice l c a=>exact .slice l c (a.cx A)
 | A70=>exact .A70
 | map r=>exact .map r
 | A6f=>exact .A6f
 | chan r=>exact .chan r
 | func f hp _ hq _ ip iq=>exact .func (f.cx A) hp ip hq iq
 | nilFunc=>exact .nilFunc
 | iface t _ i=>exact .iface t i
 | nilIface=>exact .nilIface
 | agg hp _ i=>exact .agg hp i
 | tuple hp _ i=>exact .tuple hp i
theorem AR.cx {p p':Array Value}(h:AR X B p p'):AR X' B p p':=⟨h.1,fun i v v' a b=>(h.2 i v v' a b).cx A⟩
theorem PR.cx {l:Nat}{p p':Array Value}(h:PR X B l p p'):PR X' B l p p':=⟨h.1,fun i v v' g a b=>(h.2 i v v' g a b).cx A⟩
theorem Alike.known {b n:Nat}{t t':TypeId}(h:TyR X b t t' n):TyR X' b t t' n:=by unfold TyR;rw[A.L,A.Mv,A.Z,A.N];exact h
theorem TgR.cx {t t':Target}(h:TgR X B t t'):TgR X' B t t':=by
 cases h with
 | fn f p=>exact .fn (f.cx A) (p.cx A)
 | nil=>exact .nil
 | builtin b ts t cs h=>exact .builtin b ts t cs h
 | collected r=>exact .collected r
theorem R5.cx {l l':List Deferred}(h:R5 X B l l'):R5 X' B l l':=by
 induction h with
 | nil=>exact .nil
 | cons q a _ ih=>exact .cons (by rw[A.Dn];exact q) ⟨a.1.cx A,a.2.cx A⟩ ih
theorem It.cx {o:Operand}(h:It X o):It X' o:=by
 cases o with
 | tmp t=>trivial
 | const v=>exact fun B=>(h B).cx A
 | global g=>exact(by rw[A.G];exact h:X'.G g)
 | func f=>exact(by rw[A.C,A.T];exact h:X'.C f/\¬X'.T f)
theorem Jy.cx:∀{c c':Code},Jy X c c'->Jy X' c c'
 | .refuse _,_,h=>h.imp id fun h=>(by rw[A.R];exact h:X'.R _ _)
 | .region _ _ _,_,h=>⟨h.1,by rw[A.K];exact h.2⟩
 | .seq _ _,_,⟨a,b,h1,h2,h3⟩=>⟨a,b,h1,h2.cx,h3.cx⟩
 | .cond _ _ _,_,⟨a,b,h1,h0,h2,h3⟩=>⟨a,b,h1,h0.cx A,h2.cx,h3.cx⟩
 | .rangeFunc _ _ _ _,_,⟨a,b,h1,h0,h2,h3⟩=>⟨a,b,h1,h0.cx A,h2.cx,h3.cx⟩
 | .block _ _,_,⟨a,h1,h2⟩=>⟨a,h1,h2.cx⟩
 | .loop _,_,⟨a,h1,h2⟩=>⟨a,h1,h2.cx⟩
 | .scope _,_,⟨a,h1,h2⟩=>⟨a,h1,h2.cx⟩
 | .goto _,_,h=>h.elim
 | .skip,_,h=>h
 | .ret,_,h=>h
 | .exit _,_,h=>h
 | .label _,_,h=>h
theorem LpR.cx {l l':Loop}(h:LpR X B l l'):LpR X' B l l' :=
 ⟨h.state,h.pending,fun c e=>(h.pok c e).cx A,h.fn,h.tmps.cx A,h.params,h.assign.cx A,h.body.cx A,h.defers⟩
theorem X8.cx {o o':Obj}(h:X8 X B o o'):X8 X' B o o':=by
 cases h with
 | cells t f a=>exact .cells t f (a.cx A)
 | chan cap cl s r tm a=>exact .chan cap cl s r tm (a.cx A)
 | number l a=>exact .number l (a.cx A)
 | stringIter s p=>exact .stringIter s p
 | loop a=>exact .loop (a.cx A)
 | A00=>exact .A00
 | A01 a=>exact .A01 (a.cx A)
theorem ItR.cx {i i':Item}(h:ItR X B i i'):ItR X' B i i':=by
 cases h with
 | code a=>exact .code (a.cx A)
 | inBlock i=>exact .inBlock i
 | inLoop a=>exact .inLoop (a.cx A)
 | inScope a=>exact .inScope (a.cx A)
 | inRegion o l a=>exact .inRegion o l (by rw[A.K];exact a)
 | inRangeFunc a=>exact .inRangeFunc a
 | endRangeFunc a=>exact .endRangeFunc a
 | beginRound=>exact .beginRound
theorem Rc.cx {l l':List Item}(h:Rc X B l l'):Rc X' B l l':=by
 induction h with
 | nil=>exact .nil
 | cons a _ ih=>exact .cons (a.cx A) ih
theorem Z8.cx {l l':List PanicEntry}(h:Z8 X B l l'):Z8 X' B l l':=by
 induction h with
 | nil=>exact .nil
 | cons r g a _ ih=>exact .cons r g (a.cx A) ih
theorem MoR.cx {l l':FrameMode}(h:MoR X B l l'):MoR X' B l l':=by
 cases h with
 | run=>exact .run
 | returning=>exact .returning
 | panicking a=>exact .panicking (a.cx A)
theorem Ee.cx {fr fr':Frame}(h:Ee X B fr fr'):Ee X' B fr fr' :=
 ⟨h.fn,h.tmps.cx A,h.todo.cx A,h.defers.cx A,h.mode.cx A,h.kind,h.roundOf⟩
theorem L8.cx {l l':List Frame}(h:L8 X B l l'):L8 X' B l l':=by
 induction h with
 | nil=>exact .nil
 | cons a _ ih=>exact .cons (a.cx A) ih
end
theorem A87 {X X':Cx}{B:Lk}{V W:World}(A:Alike X X')(hw:WR X B V W){s s':Nat}(hs:B s s')(hd:¬X.D s){c:Array Value}{t:TypeId}{f:Nat×Nat}(hv:V.heap[s]?=some (.cells c t f))
 (hF:∀b,X'.F b↔X.F b\/b=s):WR X' B { V with heap:=V.heap.setIfInBounds s (.cells c t (0,c.size)) } W:=by
 have hlt:=hw.Vw hs
 refine⟨hw.tape,hw.drawn,hw.os,hw.output,hw.fn,hw.inj,fun g hg=>hw.Hm g (by rw[A.G]at hg;exact hg),fun b b' x d fz=>?_,fun b b' x d fz=>?_,fun b b' x d=>?_,fun b d=>?_,fun b fz=>?_,by rw[A.N];exact hw.low,by rw[A.N];simpa using hw.nV,by rw[A.N];exact hw.nW⟩
 ·rw[A.D]at d;have hne:s≠b:=fun e=>fz ((hF b).2 (.inr e.symm))
  obtain⟨o,o',h1,h2,h3⟩:=hw.live b b' x d fun h=>fz ((hF b).2 (.inl h))
  exact⟨o,o',by simp[hne,h1],h2,h3.cx A⟩
 ·rw[A.D]at d
  by_cases e:s=b
  ·subst e;obtain rfl:=hw.fn _ _ _ x hs
   rcases hw.at hs hd with⟨c1,c',t1,t',f1,f',h1,h2,ha,_,hm⟩ |⟨_,o,o',h1,h2,_,hn,_⟩
   ·rw[hv]at h1
    cases h1
    exact⟨c,c',t,t',f',by simp[hlt],h2,by rw[A.L];exact ha.cx A,A.known hm⟩
   ·rw[hv]at h1
    cases h1
    exact absurd rfl (hn _ _ _)
  ·obtain⟨c1,c',t1,t',g,h1,h2,h3,h4⟩:=hw.Ip b b' x d (((hF b).1 fz).resolve_right fun h=>e h.symm)
   exact⟨c1,c',t1,t',g,by simp[e,h1],h2,by rw[A.L];exact h3.cx A,A.known h4⟩
 ·rw[A.D]at d;have hne:s≠b:=fun e=>hd (e▸d)
  obtain⟨⟨t1,h1⟩,h2⟩:=hw.dead b b' x d
  exact⟨⟨t1,by simp[hne,h1]⟩,h2⟩
 ·rw[A.D]at d
  simpa using hw.Vc b d
 ·rcases(hF b).1 fz with h|rfl
  ·simpa using hw.Rw b h
  ·simpa using hlt
theorem A63 {X X':Cx}{B:Lk}{V W:World}(A:Alike X X')(hw:WR X B V W){s':Nat}(hs:∀b,¬B b s'){c:Array Value}{t:TypeId}{f:Nat×Nat}(hv:W.heap[s']?=some (.cells c t f))(hc:∀v∈c,Flat X v)
 (hN:X.N<=s') (hF:∀b,X'.F b↔X.F b\/b=V.heap.size):WR X' (fun b b'=>B b b' \/(b=V.heap.size/\b'=s')) { V with heap:=V.heap.push (.cells c t (0,c.size)) } W:=by
 have hle:Le B (fun b b'=>B b b' \/(b=V.heap.size/\b'=s')):=fun b b' h=>.inl h
 have hnD:¬X.D V.heap.size:=fun h=>Akh _ (hw.Vc _ h)
 refine⟨hw.tape,hw.drawn,hw.os,hw.output,?_,?_,fun g hg=>.inl (hw.Hm g (by rw[A.G]at hg;exact hg)),fun b b' x d fz=>?_,fun b b' x d fz=>?_,fun b b' x d=>?_,fun b d=>?_,fun b fz=>?_,?_,by rw[A.N];exact Ai5 hw.nV (by simp),by rw[A.N];exact hw.nW⟩
 ·rintro b b₁ b₂ (h |⟨rfl,rfl⟩) (k |⟨e,rfl⟩)
  ·exact hw.fn b b₁ b₂ h k
  ·exact absurd (hw.Vw h) (by omega)
  ·exact absurd (hw.Vw k) (by omega)
  ·rfl
 ·rintro b₁ b₂ b' (h |⟨rfl,rfl⟩) (k |⟨rfl,e⟩)
  ·exact hw.inj b₁ b₂ b' h k
  ·exact absurd (e▸h) (hs b₁)
  ·exact absurd k (hs b₂)
  ·rfl
 ·rw[A.D]at d
  rcases x with x |⟨rfl,rfl⟩
  ·obtain⟨o,o',h1,h2,h3⟩:=hw.live b b' x d fun h=>fz ((hF b).2 (.inl h))
   exact⟨o,o',by simp[Aie,Aji (hw.Vw x),h1],h2,(h3.mono hle).cx A⟩
  ·exact absurd ((hF _).2 (.inr rfl)) fz
 ·rw[A.D]at d
  rcases x with x |⟨rfl,rfl⟩
  ·obtain⟨c1,c',t1,t',g,h1,h2,h3,h4⟩:=hw.Ip b b' x d (((hF b).1 fz).resolve_right (Aji (hw.Vw x)))
   exact⟨c1,c',t1,t',g,by simp[Aie,Aji (hw.Vw x),h1],h2,by rw[A.L];exact(h3.mono hle).cx A,A.known h4⟩
  ·exact⟨c,c,t,t,f,by simp,hv,⟨Ai3 _,fun i v v' _ h1 h2=>by
    cases h1.symm.trans h2
    exact(hc v (Aj2 h1) _).cx A⟩,TyR.same (by rw[A.L];exact Alm fun h=>Akh _ (hw.Rw _ (X.lf _ h)))⟩
 ·rw[A.D]at d
  rcases x with x |⟨rfl,rfl⟩
  ·obtain⟨⟨t1,h1⟩,h2⟩:=hw.dead b b' x d
   exact⟨⟨t1,by simp[Aie,Aji (hw.Vw x),h1]⟩,h2⟩
  ·exact absurd d hnD
 ·rw[A.D]at d;have:=hw.Vc b d;simp;omega
 ·rcases(hF b).1 fz with h|rfl
  ·have:=hw.Rw b h;simp;omega
  ·simp
 ·rw[A.N];rintro b b' (h |⟨rfl,rfl⟩)
  ·exact hw.low b b' h
  ·have:=hw.nV
   omega
end Lr
namespace Co
open Go.Conc Tl Lr Bar
section
variable {X : Cx} {P P' : Program}
theorem A2r (H:Whole X P P')(hT:∀f,¬X.T f){F:St->Prop}(hF:∀x τ d,JL X x->F x->F (x.at τ d)){m:Bool}{base:List Frame}{x:St}{B:Lk}{W:World}{fr':Frame}{cs':List Frame}
 (hw:WR X B x.V W) (hf:Ee X B x.fr fr') (hc:L8 X B x.cs cs') (hb:Gv x.fr x.cs=none)
 (hr:∀τ d,∃z n,F z/\runN P n (lone x.fr (x.cs++[wall P]) { x.V with tape:=τ,drawn:=d })=.next (lone z.fr (z.cs++[wall P]) z.V)) :
 Co P' m base (Ka X B) (M6 X x.V.heap.size W.heap.size B F) (G2 X B) fr' cs' W:=by
 have K:=A0v H hT hF;have hj:JL X x:=⟨B,W,fr',cs',hw,hf,hc,hb⟩
 have hC:C P F x:=fun τ d=>by
  obtain⟨z,n,hz,hn⟩:=hr τ d
  exact Wr K hz n (x.at τ d) (K.tape _ τ d hj) hn
 exact A6g H hT (bar K hj hC) (τ:=x.V.tape) (d:=x.V.drawn) hw hf hc hb (Gr.refl _ _ _) (Ai3 _) (Ai3 _) rfl
end
end Co
namespace Co
open Go.Conc Tl Lr Bar
open Go.ConcN (sumTo upd sumTo_upd upd_ne upd_same)
structure Left (L:Nat->Prop)(w:World)(L':Nat->Prop)(w':World):Prop where
 old:∀b,L b->L' b
 new:∀b,L' b->L b\/w.heap.size<=b
 size:w.heap.size<=w'.heap.size
 kept:∀b,b<w.heap.size->¬L b->w'.heap[b]?=w.heap[b]?
 tape:w'.tape=w.tape
 os:w'.os=w.os/\w'.output=w.output
theorem Left.refl (L:Nat->Prop)(w:World):Left L w L w:=⟨fun _ h=>h,fun _ h=>.inl h,Ai3 _,fun _ _ _=>rfl,rfl,rfl,rfl⟩
theorem Left.trans {L L1 L2:Nat->Prop}{w w1 w2:World}(h:Left L w L1 w1)(k:Left L1 w1 L2 w2):Left L w L2 w2 where
 old b x:=k.old b (h.old b x)
 new b x:=by
  rcases k.new b x with y|y
  ·exact h.new b y
  ·exact .inr (Ai5 h.size y)
 size:=Ai5 h.size k.size
 kept b hb hl:=by
  rw[k.kept b (Ai9 hb h.size) fun x=>(h.new b x).elim hl fun y=>by omega]
  exact h.kept b hb hl
 tape:=k.tape.trans h.tape
 os:=⟨k.os.1.trans h.os.1,k.os.2.trans h.os.2⟩
theorem Did.left {L R L1:Nat->Prop}{w w1:World}{n:Array Event}(h:Did L R w L1 w1 n):Left L w L1 w1:=⟨h.old,h.new,h.size,h.kept,h.tape,h.os⟩
theorem left_at (L:Nat->Prop)(w:World)(d:Nat):Left L w L (w.at d):=⟨fun _ h=>h,fun _ h=>.inl h,Ai3 _,fun _ _ _=>rfl,rfl,rfl,rfl⟩
theorem Ak {L R:Nat->Prop}{W w:World}(h:Bp L R W w)(d:Nat):Bp L R W (w.at d):=h
theorem Bv (L R:Nat->Prop)(W:World):Bp L R W W:=⟨Ai3 _,fun _ _=>rfl,rfl,rfl⟩
theorem Ng {L R:Nat->Prop}{B:Nat}{e:Event}(h:EvC L R e)(hL:∀b,L b->b<B)(hR:∀b,R b->b<B):EvL (fun _=>False) B e:=by
 obtain⟨loc,wr,sy⟩:=e;unfold EvC at h
 refine⟨fun x _ hs=>hs.elim,?_,?_,?_⟩<;>(cases loc<;>dsimp only at h)<;>first
  |(intro e;cases e;done)
  | exact h.elim
  |(subst h;intro e;cases e;done)
  | skip
 ·rcases h.2 with h|h
  ·exact hL _ h
  ·exact hR _ h.1
 ·have:=hL _ h
  cases wr<;>cases sy<;>exact this
 ·subst h;trivial
end Co
namespace Co
open Go.Conc
def Gf (S:Nat->Prop):Loc->Prop
 | .cell a=>S a.block
 | .obj r=>S r
 | _=>False
theorem S6 {S S':Nat->Prop}(h:∀b,S b->S' b){l:Loc}(k:Gf S l):Gf S' l:=by
 cases l<;>first|exact h _ k|exact k.elim
structure U1 (t:Trace)(g:Nat)(L R:Nat->Prop):Prop where
 own:∀i a,touchAt t i=some a->Gf L a.loc->Knows t g i
 read:∀i a,touchAt t i=some a->Gf R a.loc->a.write=true->Knows t g i
theorem Lf {L R:Nat->Prop}{e:Event}(h:EvC L R e){b:Touch}(hb:(MemAct.ofEvent e).touch?=some b):Gf L b.loc \/(Gf R b.loc/\b.write=false):=by
 obtain⟨loc,wr,sy⟩:=e;unfold EvC at h
 cases loc with
 | cell a =>
   dsimp only at h;obtain⟨rfl,h⟩:=h
   cases hb
   rcases h with h |⟨h,h2⟩
   ·exact .inl h
   ·exact .inr ⟨h,h2⟩
 | obj r =>
   dsimp only at h
   cases wr<;>cases sy<;>first |(cases hb;done) |(cases hb;exact .inl h)
 | mark m =>
   dsimp only at h;subst h
   cases hb
 | _=>exact h.elim
section
variable {t : Trace} {g : Nat} {L R : Nat -> Prop} {fn : FuncId} {pos : String} {es : Array Event}
theorem Ca {u:Trace}{i:Nat}{a:Touch}(h:touchAt (t++u) i=some a):touchAt t i=some a\/∃op∈u,(t++u)[i]?=some op/\op.act.touch?=some a:=by
 obtain⟨x,hx,hxa⟩:=touch_of h
 rcases getElem?_append_cases hx with⟨hi,hx'⟩ |⟨_,hxu⟩
 ·exact .inl (by rw[touchAt_of hx'];exact hxa)
 ·exact .inr ⟨x,hxu,hx,hxa⟩
theorem U1.noRace (h:U1 t g L R)(hc:∀said,¬Race said t)(he:∀e∈es,EvC L R e):∀said,¬Race said (t++MemOp.ofEvents g fn pos es):=by
 intro said
 refine noRace_append (hc said) (fun op hop=>by obtain⟨e,_,rfl⟩:=Go.Conc.mem_ofEvents hop;rfl) fun i a ha op hop b hb hcf=>?_
 obtain⟨e,hee,rfl⟩:=Go.Conc.mem_ofEvents hop;obtain⟨h1,_,h3,_⟩:=hcf
 rcases Lf (he e hee) hb with k |⟨k,hw⟩
 ·exact h.own i a ha (by rw[h1];exact k)
 ·exact h.read i a ha (by rw[h1];exact k) (by rcases h3 with h3|h3;exact h3;rw[hw]at h3;cases h3)
theorem U1.self (h:U1 t g L R):U1 (t++MemOp.ofEvents g fn pos es) g L R:=by
 have key:∀op∈MemOp.ofEvents g fn pos es,op.g=g:=fun op hop=>by obtain⟨e,_,rfl⟩:=Go.Conc.mem_ofEvents hop;rfl
 refine⟨fun i a ha hl=>?_,fun i a ha hl hw=>?_⟩
 ·rcases Ca ha with h1 |⟨op,h1,h2,h3⟩
  ·exact(h.own i a h1 hl).app _
  ·have:=knows_own h2
   rwa [key op h1]at this
 ·rcases Ca ha with h1 |⟨op,h1,h2,h3⟩
  ·exact(h.read i a h1 hl hw).app _
  ·have:=knows_own h2
   rwa [key op h1]at this
theorem U1.other {g':Nat}{L' R':Nat->Prop}(h:U1 t g L R)(he:∀e∈es,EvC L' R' e)(h1:∀b,L' b->¬L b/\¬R b)(h2:∀b,R' b->¬L b):U1 (t++MemOp.ofEvents g' fn pos es) g L R:=by
 have ap:∀{S S':Nat->Prop} {l:Loc},(∀b,S b->¬S' b)->Gf S l->¬Gf S' l:=by
  intro S S' l k x y
  cases l<;>first|exact k _ x y|exact x
 refine⟨fun i a ha hl=>?_,fun i a ha hl hw=>?_⟩
 ·rcases Ca ha with h3 |⟨op,h3,_,h4⟩
  ·exact(h.own i a h3 hl).app _
  ·obtain⟨e,hee,rfl⟩:=Go.Conc.mem_ofEvents h3
   rcases Lf (he e hee) h4 with k |⟨k,_⟩
   ·exact absurd hl (ap (fun b x=>(h1 b x).1) k)
   ·exact absurd hl (ap h2 k)
 ·rcases Ca ha with h3 |⟨op,h3,_,h4⟩
  ·exact(h.read i a h3 hl hw).app _
  ·obtain⟨e,hee,rfl⟩:=Go.Conc.mem_ofEvents h3
   rcases Lf (he e hee) h4 with k |⟨k,hw'⟩
   ·exact absurd hl (ap (fun b x=>(h1 b x).2) k)
   ·rw[hw']at hw;cases hw
theorem U1.app {u:Trace}(h:U1 t g L R)(hu:∀op∈u,op.act.touch?=none):U1 (t++u) g L R:=by
 refine⟨fun i a ha hl=>?_,fun i a ha hl hw=>?_⟩
 ·rcases Ca ha with h3 |⟨op,h3,_,h4⟩
  ·exact(h.own i a h3 hl).app _
  ·rw[hu op h3]at h4;cases h4
 ·rcases Ca ha with h3 |⟨op,h3,_,h4⟩
  ·exact(h.read i a h3 hl hw).app _
  ·rw[hu op h3]at h4;cases h4
theorem U1.fresh {B:Nat}{L1:Nat->Prop}(h:U1 t g L R)(hs:∀op∈t,op.act.low B)(hl:∀b,L1 b->L b\/B<=b):U1 t g L1 R:=by
 refine⟨fun i a ha hla=>?_,h.read⟩
 obtain⟨x,hx,hxa⟩:=touch_of ha;have hlow:=hs x (Aj2 hx)
 have:Gf L a.loc:=by
  obtain⟨loc,wr,kd⟩:=a
  have hlo:loc.low B:=by
   generalize x.act=act at hlow hxa
   cases act with
   | access e=>cases hxa;exact hlow
   | mark m=>cases m<;>first |(cases hxa;done) |(cases hxa;exact hlow)
   | _=>cases hxa
  cases loc with
  | cell c=>exact(hl _ hla).resolve_right fun x=>by have:c.block<B:=hlo;omega
  | obj r=>exact(hl _ hla).resolve_right fun x=>by have:r<B:=hlo;omega
  | _=>exact hla.elim
 exact h.own i a ha this
end
theorem A39 {t u:Trace}{g g' i p q:Nat}{x y:MemOp}(h:Knows t g i)(hp:t.size<=p)(hx:(t++u)[p]?=some x)(hxg:x.g=g)(hpq:HappensBefore (t++u) p q)(hy:(t++u)[q]?=some y)(hyg:y.g=g'):Knows (t++u) g' i :=
 ⟨q,y,hy,hyg,.inr ((h.hb_new hp hx hxg).trans hpq)⟩
theorem Mp {t u:Trace}{g:Nat}(hu:∀op∈u,op.act≠.mark .disable/\op.act≠.mark .enable):∀k,k<=u.size ->(t++u).deaf g (t.size+k)=Deaf t g
 | 0,_=>deaf_old (Ai3 _)
 | k+1,hk=>by
   have hlt:k<u.size:=hk
   have hy:(t++u)[t.size+k]?=some u[k]:=by
    rw[Akn (by omega)]
    simp[hlt]
   rw[<-Nat.add_assoc,deaf_succ hy,Mp hu k (by omega)]
   have:=hu u[k] (Array.getElem_mem hlt);unfold deafStep
   split
   ·exact absurd ‹_› this.1
   ·exact absurd ‹_› this.2
   ·rfl
theorem G5 (t:Trace)(g:Nat)(u:Trace)(hu:∀op∈u,op.act≠.mark .disable/\op.act≠.mark .enable):Deaf (t++u) g=Deaf t g:=by
 have:=Mp (t:=t) (g:=g) hu u.size (Ai3 _);unfold Deaf at *;rw[Array.size_append]
 exact this
theorem I8 {t u:Trace}(hu:∀op∈u,op.act≠.mark .disable/\op.act≠.mark .enable){k:Nat}{x:MemOp}(hk:u[k]?=some x)(hd:Deaf t x.g=0):(t++u).heard (t.size+k):=by
 have hlt:=(Ai2.1 hk).1
 refine⟨x.g,?_,?_⟩
 ·unfold Trace.g?;rw[Akn (by omega)]
  simp[hk]
 ·rw[Mp hu k (by omega)]
  exact hd
theorem A30 {t:Trace}{c k cap gS gR:Nat}{f1 f2 f3 f4:FuncId}{p1 p2 p3 p4:String}(hS:Deaf t gS=0)(hR:Deaf t gR=0){i:Nat}(h:Knows t gS i) :
 Knows (t ++#[{ g:=gS,fn:=f1,pos:=p1,act:=.send c k },{ g:=gR,fn:=f2,pos:=p2,act:=.recv c k cap },{ g:=gS,fn:=f3,pos:=p3,act:=.sendDone c k },{ g:=gR,fn:=f4,pos:=p4,act:=.recvDone c k }]) gR i:=by
 generalize hu:(#[{ g:=gS,fn:=f1,pos:=p1,act:=.send c k },{ g:=gR,fn:=f2,pos:=p2,act:=.recv c k cap },{ g:=gS,fn:=f3,pos:=p3,act:=.sendDone c k },{ g:=gR,fn:=f4,pos:=p4,act:=.recvDone c k }]:Trace)=u
 have hq:∀op∈u,op.act≠.mark .disable/\op.act≠.mark .enable:=by
  intro op hop;rw[<-hu]at hop;simp only[Ajb,Ajf,Aja,Akv]at hop
  rcases hop with rfl|rfl|rfl|rfl<;>exact⟨by simp,by simp⟩
 have h0:u[0]?=some { g:=gS,fn:=f1,pos:=p1,act:=.send c k }:=by rw[<-hu];rfl
 have h3:u[3]?=some { g:=gR,fn:=f4,pos:=p4,act:=.recvDone c k }:=by rw[<-hu];rfl
 have g0:(t++u)[t.size+0]?=some { g:=gS,fn:=f1,pos:=p1,act:=.send c k }:=by
  rw[Akn (by omega)];simpa using h0
 have g3:(t++u)[t.size+3]?=some { g:=gR,fn:=f4,pos:=p4,act:=.recvDone c k }:=by
  rw[Akn (by omega)];simpa using h3
 refine A39 h (Ai3 _) g0 rfl (.single (.inr ⟨.handOver (c:=c) (k:=k) ?_ ?_,I8 hq h0 hS,I8 hq h3 hR⟩)) g3 rfl
 ·unfold Trace.act?;rw[Nat.add_zero]at g0;rw[g0];rfl
 ·unfold Trace.act?;rw[g3];rfl
theorem Zr {t:Trace}{c p gR:Nat}{x:MemOp}{f1:FuncId}{p1:String}(hp:t[p]?=some x)(hx:x.act=.close c)(hh:t.heard p)(hR:Deaf t gR=0){i:Nat}(h:Before t i p) :
 Knows (t ++#[{ g:=gR,fn:=f1,pos:=p1,act:=.recvClosed c }]) gR i:=by
 generalize hu:(#[{ g:=gR,fn:=f1,pos:=p1,act:=.recvClosed c }]:Trace)=u
 have hq:∀op∈u,op.act≠.mark .disable/\op.act≠.mark .enable:=by
  intro op hop;rw[<-hu]at hop;simp only[Ajb,Ajf,Aja,Akv]at hop;subst hop
  exact⟨by simp,by simp⟩
 have h0:u[0]?=some { g:=gR,fn:=f1,pos:=p1,act:=.recvClosed c }:=by rw[<-hu];rfl
 have g0:(t++u)[t.size+0]?=some { g:=gR,fn:=f1,pos:=p1,act:=.recvClosed c }:=by
  rw[Akn (by omega)];simpa using h0
 have hlt:=lt_size_of_getElem? hp;have gp:(t++u)[p]?=some x:=by rw[getElem?_append_old hlt];exact hp
 refine⟨t.size+0,_,g0,rfl,(h.app u).trans (.inr (.single (.inr ⟨.closed (c:=c) ?_ ?_,(heard_old hlt).2 hh,I8 hq h0 hR⟩)))⟩
 ·unfold Trace.act?;rw[gp,Akw,hx]
 ·unfold Trace.act?;rw[g0];rfl
end Co
end Go.Proofs.YtlfleicchbgcmaaGreat
