/- Merged texts: Mai. -/
import Derived.Test.YthhfljldbfgpcaaGreatDoorT34
set_option linter.all false
section
namespace Go.Proofs.YthhfljldbfgpcaaGreatDoor
open Go.RowKit Go.Proofs.YthhfljldbfgpcaaGreatDoor.Co Go.Proofs.YthhfljldbfgpcaaGreatDoor.Ok
attribute [local go_sem ↓] Go.wp_at_zero Go.wp_at_succ
attribute [local go_sem] run_store_float run_store_complex
set_option maxRecDepth 100000 in
set_option maxHeartbeats 4000000 in
theorem arr71 (t:Array Value) (h:t.size=71):∃ y0 y1 y2 y3 y4 y5 y6 y7 y8 y9 y10 y11 y12 y13 y14 y15 y16 y17 y18 y19 y20 y21 y22 y23 y24 y25 y26 y27 y28 y29 y30 y31 y32 y33 y34 y35 y36 y37 y38 y39 y40 y41 y42 y43 y44 y45 y46 y47 y48 y49 y50 y51 y52 y53 y54 y55 y56 y57 y58 y59 y60 y61 y62 y63 y64 y65 y66 y67 y68 y69 y70:Value,t=#[y0,y1,y2,y3,y4,y5,y6,y7,y8,y9,y10,y11,y12,y13,y14,y15,y16,y17,y18,y19,y20,y21,y22,y23,y24,y25,y26,y27,y28,y29,y30,y31,y32,y33,y34,y35,y36,y37,y38,y39,y40,y41,y42,y43,y44,y45,y46,y47,y48,y49,y50,y51,y52,y53,y54,y55,y56,y57,y58,y59,y60,y61,y62,y63,y64,y65,y66,y67,y68,y69,y70]:=by
 obtain ⟨l⟩:=t
 simp only [List.size_toArray] at h
 rcases l with _ | ⟨y0,l⟩
 · simp at h
 rcases l with _ | ⟨y1,l⟩
 · simp at h
 rcases l with _ | ⟨y2,l⟩
 · simp at h
 rcases l with _ | ⟨y3,l⟩
 · simp at h
 rcases l with _ | ⟨y4,l⟩
 · simp at h
 rcases l with _ | ⟨y5,l⟩
 · simp at h
 rcases l with _ | ⟨y6,l⟩
 · simp at h
 rcases l with _ | ⟨y7,l⟩
 · simp at h
 rcases l with _ | ⟨y8,l⟩
 · simp at h
 rcases l with _ | ⟨y9,l⟩
 · simp at h
 rcases l with _ | ⟨y10,l⟩
 · simp at h
 rcases l with _ | ⟨y11,l⟩
 · simp at h
 rcases l with _ | ⟨y12,l⟩
 · simp at h
 rcases l with _ | ⟨y13,l⟩
 · simp at h
 rcases l with _ | ⟨y14,l⟩
 · simp at h
 rcases l with _ | ⟨y15,l⟩
 · simp at h
 rcases l with _ | ⟨y16,l⟩
 · simp at h
 rcases l with _ | ⟨y17,l⟩
 · simp at h
 rcases l with _ | ⟨y18,l⟩
 · simp at h
 rcases l with _ | ⟨y19,l⟩
 · simp at h
 rcases l with _ | ⟨y20,l⟩
 · simp at h
 rcases l with _ | ⟨y21,l⟩
 · simp at h
 rcases l with _ | ⟨y22,l⟩
 · simp at h
 rcases l with _ | ⟨y23,l⟩
 · simp at h
 rcases l with _ | ⟨y24,l⟩
 · simp at h
 rcases l with _ | ⟨y25,l⟩
 · simp at h
 rcases l with _ | ⟨y26,l⟩
 · simp at h
 rcases l with _ | ⟨y27,l⟩
 · simp at h
 rcases l with _ | ⟨y28,l⟩
 · simp at h
 rcases l with _ | ⟨y29,l⟩
 · simp at h
 rcases l with _ | ⟨y30,l⟩
 · simp at h
 rcases l with _ | ⟨y31,l⟩
 · simp at h
 rcases l with _ | ⟨y32,l⟩
 · simp at h
 rcases l with _ | ⟨y33,l⟩
 · simp at h
 rcases l with _ | ⟨y34,l⟩
 · simp at h
 rcases l with _ | ⟨y35,l⟩
 · simp at h
 rcases l with _ | ⟨y36,l⟩
 · simp at h
 rcases l with _ | ⟨y37,l⟩
 · simp at h
 rcases l with _ | ⟨y38,l⟩
 · simp at h
 rcases l with _ | ⟨y39,l⟩
 · simp at h
 rcases l with _ | ⟨y40,l⟩
 · simp at h
 rcases l with _ | ⟨y41,l⟩
 · simp at h
 rcases l with _ | ⟨y42,l⟩
 · simp at h
 rcases l with _ | ⟨y43,l⟩
 · simp at h
 rcases l with _ | ⟨y44,l⟩
 · simp at h
 rcases l with _ | ⟨y45,l⟩
 · simp at h
 rcases l with _ | ⟨y46,l⟩
 · simp at h
 rcases l with _ | ⟨y47,l⟩
 · simp at h
 rcases l with _ | ⟨y48,l⟩
 · simp at h
 rcases l with _ | ⟨y49,l⟩
 · simp at h
 rcases l with _ | ⟨y50,l⟩
 · simp at h
 rcases l with _ | ⟨y51,l⟩
 · simp at h
 rcases l with _ | ⟨y52,l⟩
 · simp at h
 rcases l with _ | ⟨y53,l⟩
 · simp at h
 rcases l with _ | ⟨y54,l⟩
 · simp at h
 rcases l with _ | ⟨y55,l⟩
 · simp at h
 rcases l with _ | ⟨y56,l⟩
 · simp at h
 rcases l with _ | ⟨y57,l⟩
 · simp at h
 rcases l with _ | ⟨y58,l⟩
 · simp at h
 rcases l with _ | ⟨y59,l⟩
 · simp at h
 rcases l with _ | ⟨y60,l⟩
 · simp at h
 rcases l with _ | ⟨y61,l⟩
 · simp at h
 rcases l with _ | ⟨y62,l⟩
 · simp at h
 rcases l with _ | ⟨y63,l⟩
 · simp at h
 rcases l with _ | ⟨y64,l⟩
 · simp at h
 rcases l with _ | ⟨y65,l⟩
 · simp at h
 rcases l with _ | ⟨y66,l⟩
 · simp at h
 rcases l with _ | ⟨y67,l⟩
 · simp at h
 rcases l with _ | ⟨y68,l⟩
 · simp at h
 rcases l with _ | ⟨y69,l⟩
 · simp at h
 rcases l with _ | ⟨y70,l⟩
 · simp at h
 rcases l with _ | ⟨y,l⟩
 · exact ⟨y0,y1,y2,y3,y4,y5,y6,y7,y8,y9,y10,y11,y12,y13,y14,y15,y16,y17,y18,y19,y20,y21,y22,y23,y24,y25,y26,y27,y28,y29,y30,y31,y32,y33,y34,y35,y36,y37,y38,y39,y40,y41,y42,y43,y44,y45,y46,y47,y48,y49,y50,y51,y52,y53,y54,y55,y56,y57,y58,y59,y60,y61,y62,y63,y64,y65,y66,y67,y68,y69,y70,rfl⟩
 · simp at h
noncomputable def mBody:Code:=Tryz.f5.body.getD .skip
noncomputable def mR0:Code:=match mBody with | .seq a _ => a | _ => .skip
noncomputable def mR1:Code:=match mBody with | .seq _ (.seq (.seq a _) _) => a | _ => .skip
noncomputable def mR2:Code:=match mBody with | .seq _ (.seq (.seq _ (.cond _ (.seq a _) _)) _) => a | _ => .skip
noncomputable def mB:Code:=match mBody with | .seq _ (.seq _ b) => b | _ => .skip
noncomputable def mR3:Code:=match mB with | .seq a _ => a | _ => .skip
noncomputable def mR4:Code:=match mB with | .seq _ (.seq (.seq a _) _) => a | _ => .skip
noncomputable def mR5:Code:=match mB with | .seq _ (.seq (.seq _ (.cond _ (.seq a _) _)) _) => a | _ => .skip
noncomputable def mD:Code:=match mB with | .seq _ (.seq _ b) => b | _ => .skip
noncomputable def mR6:Code:=match mD with | .seq a _ => a | _ => .skip
noncomputable def mR7:Code:=match mD with | .seq _ (.seq a _) => a | _ => .skip
noncomputable def mR8:Code:=match mD with | .seq _ (.seq _ (.seq a _)) => a | _ => .skip
noncomputable def mE:Code:=match mD with | .seq _ (.seq _ (.seq _ (.seq _ (.seq _ b)))) => b | _ => .skip
noncomputable def mR11:Code:=match mE with | .seq (.seq a _) _ => a | _ => .skip
noncomputable def mY0:Code:=match mE with | .seq (.seq _ (.block _ (.loop y))) _ => y | _ => .skip
noncomputable def mR16:Code:=match mE with | .seq _ (.seq a _) => a | _ => .skip
noncomputable def mR13:Code:=match mY0 with | .seq _ (.seq _ (.block _ (.seq a _))) => a | _ => .skip
noncomputable def mR14:Code:=match mY0 with | .seq _ (.seq _ (.block _ (.seq _ (.seq a _)))) => a | _ => .skip
noncomputable def mR15:Code:=match mY0 with | .seq _ (.seq _ (.block _ (.seq _ (.seq _ a)))) => a | _ => .skip
noncomputable def mZ:Code:=.seq (.cond (.tmp 56) .skip (.exit 0)) (.block 1 (.seq mR13 (.seq mR14 mR15)))
noncomputable def mY:Code:=.seq (.refuse "12") mZ
noncomputable def mF:Code:=.seq (.seq mR11 (.block 0 (.loop mY))) (.seq mR16 .ret)
theorem mBody_is:bodyOf Tryz.prog 5=mBody:=by kernel_rfl
theorem cut_mBody:cut [9,10,12] mBody=.seq mR0 (.seq (.seq mR1 (.cond (.tmp 18) (.seq mR2 .ret) .skip)) (.seq mR3 (.seq (.seq mR4 (.cond (.tmp 32) (.seq mR5 .ret) .skip)) (.seq mR6 (.seq mR7 (.seq mR8 (.seq (.refuse "9") (.seq (.refuse "10") mF)))))))):=by kernel_rfl
structure TX (w:World) (rb ob cx cy d n cap N M gs gm:Nat) (xs:List Nat) (ys:List Int) (W:World):Prop where
 O:Box w ob (tileC cx cy d n (.slice (some ⟨gs,0,none⟩) N cap) (.slice (some ⟨gm,0,none⟩) M cap)) 29 W
 R:Box w rb (tileC 0 0 0 0 (.slice none 0 0) (.slice none 0 0)) 29 W
 S:W.ownsRow w.heap.size 42 1 (.slice (some ⟨gs,0,none⟩) N cap) N (xs.map floV)
 M:W.ownsRow w.heap.size 3 1 (.slice (some ⟨gm,0,none⟩) M cap) M (ys.map intV)
 ne:rb ≠ ob
 hr:w.heap.size ≤ rb
 ho:w.heap.size ≤ ob
section
variable {w W W':World} {rb ob cx cy d n cap N M gs gm:Nat} {xs:List Nat} {ys:List Int}
theorem TX.step (h:TX w rb ob cx cy d n cap N M gs gm xs ys W) (k:Below W.heap.size W W'):TX w rb ob cx cy d n cap N M gs gm xs ys W':=⟨h.O.step k,h.R.step k,ownsRow_step h.S k,ownsRow_step h.M k,h.ne,h.hr,h.ho⟩
theorem TX.alloc (h:TX w rb ob cx cy d n cap N M gs gm xs ys W) (o:Obj):TX w rb ob cx cy d n cap N M gs gm xs ys (W.alloc o):=h.step ((Below.refl _ _).alloc (Nat.le_refl _) o)
theorem TX.old (h:TX w rb ob cx cy d n cap N M gs gm xs ys W):Below w.heap.size w W:=h.O.old
theorem TX.oc (h:TX w rb ob cx cy d n cap N M gs gm xs ys W) :
   W.cell? ⟨ob,0,none⟩=some (.complex .f32 cx cy) ∧ W.cell? ⟨ob,1,none⟩=some (.int .i64 d) ∧ W.cell? ⟨ob,2,none⟩=some (.int .i64 n) ∧ W.cell? ⟨ob,3,none⟩=some (.slice (some ⟨gs,0,none⟩) N cap) ∧ W.cell? ⟨ob,4,none⟩=some (.slice (some ⟨gm,0,none⟩) M cap):=h.O.cells5
theorem TX.rc (h:TX w rb ob cx cy d n cap N M gs gm xs ys W) :
   W.cell? ⟨rb,0,none⟩=some (.complex .f32 0 0) ∧ W.cell? ⟨rb,1,none⟩=some (.int .i64 0) ∧ W.cell? ⟨rb,2,none⟩=some (.int .i64 0) ∧ W.cell? ⟨rb,3,none⟩=some (.slice none 0 0) ∧ W.cell? ⟨rb,4,none⟩=some (.slice none 0 0):=h.R.cells5
theorem TX.smooth (h:TX w rb ob cx cy d n cap N M gs gm xs ys W) {m:Nat} {zs:List Nat} (hown:W'.ownsRow w.heap.size 42 1 (.slice (some ⟨gs,0,none⟩) (N + m) cap) (N + m) (xs.map floV ++ zs.map floV)) (hg:W.grownBy W' (some gs)) :
   TX w rb ob cx cy d n cap (N + m) M gs gm (xs ++ zs) ys (W'.setCell ⟨ob,3,none⟩ (.slice (some ⟨gs,0,none⟩) (N + m) cap)) ∧ W'.cell? ⟨ob,3,none⟩=some (.slice (some ⟨gs,0,none⟩) N cap) ∧ W'.frozen? ⟨ob,3,none⟩=false:=by
 have hrow:∀ k,some gs=some k → w.heap.size ≤ k:=fun k hk => (h.S.lt k hk).1
 have O:=h.O.grown hg (ownsRow_ne h.S h.O.blk (by decide)) hrow
 have R:=h.R.grown hg (ownsRow_ne h.S h.R.blk (by decide)) hrow
 have M:=h.M.kept hg (ownsRow_apart h.M h.S (by decide))
 refine ⟨⟨?_,R.other (p:=⟨ob,3,none⟩) h.ho h.ne _,?_,ownsRow_set M O.blk (by decide) _,h.ne,h.hr,h.ho⟩,O.cell 3 _ rfl,O.frozen 3⟩
 · have:=O.set h.ho 3 (.slice (some ⟨gs,0,none⟩) (N + m) cap)
   exact this
 · rw [List.map_append]
   exact ownsRow_set hown O.blk (by decide) _
theorem TX.mark (h:TX w rb ob cx cy d n cap N M gs gm xs ys W) {m:Nat} {zs:List Int} (hown:W'.ownsRow w.heap.size 3 1 (.slice (some ⟨gm,0,none⟩) (M + m) cap) (M + m) (ys.map intV ++ zs.map intV)) (hg:W.grownBy W' (some gm)) :
   TX w rb ob cx cy d n cap N (M + m) gs gm xs (ys ++ zs) (W'.setCell ⟨ob,4,none⟩ (.slice (some ⟨gm,0,none⟩) (M + m) cap)) ∧ W'.cell? ⟨ob,4,none⟩=some (.slice (some ⟨gm,0,none⟩) M cap) ∧ W'.frozen? ⟨ob,4,none⟩=false:=by
 have hrow:∀ k,some gm=some k → w.heap.size ≤ k:=fun k hk => (h.M.lt k hk).1
 have O:=h.O.grown hg (ownsRow_ne h.M h.O.blk (by decide)) hrow
 have R:=h.R.grown hg (ownsRow_ne h.M h.R.blk (by decide)) hrow
 have S:=h.S.kept hg (ownsRow_apart h.S h.M (by decide))
 refine ⟨⟨?_,R.other (p:=⟨ob,4,none⟩) h.ho h.ne _,ownsRow_set S O.blk (by decide) _,?_,h.ne,h.hr,h.ho⟩,O.cell 4 _ rfl,O.frozen 4⟩
 · have:=O.set h.ho 4 (.slice (some ⟨gm,0,none⟩) (M + m) cap)
   exact this
 · rw [List.map_append]
   exact ownsRow_set hown O.blk (by decide) _
end
structure MA (rb ob:Nat) (ch:Value) (a:Act):Prop where
 size:a.tmps.size=71
 t8:a.tmps[8]?=some (.pointer (some ⟨rb,0,none⟩))
 t11:a.tmps[11]?=some (.pointer (some ⟨ob,0,none⟩))
 t12:a.tmps[12]?=some ch
 t54:a.tmps[54]?=some ch
 ds:a.defers=[]
def HRet (cx cy d n:Nat) (good:Bool) (xs:List Nat) (ys:List Int) (w:World) (t:List Item) (a:Act) (W:World):Prop :=
 ∃ rb rest,t=.code .ret :: rest ∧ a.defers=[] ∧ a.tmps[8]?=some (.pointer (some ⟨rb,0,none⟩)) ∧ a.tmps[9]?=some (.bool good) ∧ w.heap.size ≤ rb ∧
   if good then ∃ gs gm,Box w rb (tileC cx cy d n (.slice (some ⟨gs,0,none⟩) (n * n) (n * n)) (.slice (some ⟨gm,0,none⟩) (n * n) (n * n))) 29 W ∧ W.ownsRow w.heap.size 42 1 (.slice (some ⟨gs,0,none⟩) (n * n) (n * n)) (n * n) (xs.map floV) ∧ W.ownsRow w.heap.size 3 1 (.slice (some ⟨gm,0,none⟩) (n * n) (n * n)) (n * n) (ys.map intV)
   else Box w rb (tileC 0 0 0 0 (.slice none 0 0) (.slice none 0 0)) 29 W
def HMade (cx cy d n:Nat) (most:Int) (w:World) (t:List Item) (a:Act) (W:World):Prop :=
 ∃ rb ob gs gm,t=[.code (.refuse "9"),.code (.seq (.refuse "10") mF)] ∧ a.tmps.size=71 ∧ a.defers=[] ∧ a.tmps[0]?=some (.complex .f32 cx cy) ∧ a.tmps[1]?=some (.int .i64 d) ∧ a.tmps[2]?=some (.int .i64 n) ∧ a.tmps[3]?=some (.int .i64 most) ∧
   a.tmps[8]?=some (.pointer (some ⟨rb,0,none⟩)) ∧ a.tmps[11]?=some (.pointer (some ⟨ob,0,none⟩)) ∧ TX w rb ob cx cy d n (n * n) 0 0 gs gm [] [] W
theorem zero_box (w:World):Box w w.heap.size (tileC 0 0 0 0 (.slice none 0 0) (.slice none 0 0)) 29 (w.alloc (.cells (tileC 0 0 0 0 (.slice none 0 0) (.slice none 0 0)) 29)):=Box.new w _ _
theorem push4 (h:Array Obj) (a b c e:Obj):((((h.push a).push b).push c).push e)[h.size]?=some a ∧ ((((h.push a).push b).push c).push e)[h.size + 1]?=some b ∧ ((((h.push a).push b).push c).push e)[h.size + 1 + 1]?=some c ∧ ((((h.push a).push b).push c).push e)[h.size + 1 + 1 + 1]?=some e:=by
 refine ⟨?_,?_,?_,?_⟩
 · rw [Array.getElem?_push,if_neg (by simp only [Array.size_push]; omega)]; exact (push3 _ _ _ _).1
 · rw [Array.getElem?_push,if_neg (by simp only [Array.size_push]; omega)]; exact (push3 _ _ _ _).2.1
 · rw [Array.getElem?_push,if_neg (by simp)]; exact (push3 _ _ _ _).2.2
 · rw [Array.getElem?_push,if_pos (by simp)]
theorem TX.start (w:World) (cx cy d n:Nat) {cF cI:Array Value} (hF:cF.size=n * n * 1) (hI:cI.size=n * n * 1) (hm:n * n ≤ maxLen) :
   TX w w.heap.size (w.heap.size + 1) cx cy d n (n * n) 0 0 (w.heap.size + 1 + 1) (w.heap.size + 1 + 1 + 1) [] [] ((((w.alloc (.cells (tileC 0 0 0 0 (.slice none 0 0) (.slice none 0 0)) 29)).alloc (.cells (tileC cx cy d n (.slice (some ⟨w.heap.size + 1 + 1,0,none⟩) 0 (n * n)) (.slice (some ⟨w.heap.size + 1 + 1 + 1,0,none⟩) 0 (n * n))) 29)).alloc (.cells cF 42)).alloc (.cells cI 3)):=by
 have hb:Below w.heap.size w ((((w.alloc (.cells (tileC 0 0 0 0 (.slice none 0 0) (.slice none 0 0)) 29)).alloc (.cells (tileC cx cy d n (.slice (some ⟨w.heap.size + 1 + 1,0,none⟩) 0 (n * n)) (.slice (some ⟨w.heap.size + 1 + 1 + 1,0,none⟩) 0 (n * n))) 29)).alloc (.cells cF 42)).alloc (.cells cI 3)) :=
   ((((Below.refl _ _).alloc (Nat.le_refl _) _).alloc (by simp) _).alloc (by simp; omega) _).alloc (by simp; omega) _
 have hp:=push4 w.heap (.cells (tileC 0 0 0 0 (.slice none 0 0) (.slice none 0 0)) 29) (.cells (tileC cx cy d n (.slice (some ⟨w.heap.size + 1 + 1,0,none⟩) 0 (n * n)) (.slice (some ⟨w.heap.size + 1 + 1 + 1,0,none⟩) 0 (n * n))) 29) (.cells cF 42) (.cells cI 3)
 refine ⟨⟨hp.2.1,hb⟩,⟨hp.1,hb⟩,⟨by simp,.inr ⟨_,_,cF,rfl,by omega,hp.2.2.1,Nat.zero_le _,hm,hF,by simp⟩⟩,⟨by simp,.inr ⟨_,_,cI,rfl,by omega,hp.2.2.2,Nat.zero_le _,hm,hI,by simp⟩⟩,by omega,by omega,by omega⟩
section
variable {cx cy d n:Nat} {most:Int}
set_option maxRecDepth 100000 in
set_option maxHeartbeats 4000000 in

theorem hm_noplace {deep size:Int} (h:∀ W,Calls Vp.prog 19 #[.complex .f32 cx cy,.int .i64 deep,.int .i64 size] W fun e w' => e=.returned (.bool false) ∧ W=w') (y4 y5 y6 y7 y8 y9 y10 y11 y12 y13 y14 y15 y16 y17 y18 y19 y20 y21 y22 y23 y24 y25 y26 y27 y28 y29 y30 y31 y32 y33 y34 y35 y36 y37 y38 y39 y40 y41 y42 y43 y44 y45 y46 y47 y48 y49 y50 y51 y52 y53 y54 y55 y56 y57 y58 y59 y60 y61 y62 y63 y64 y65 y66 y67 y68 y69 y70:Value) (w:World) (xs:List Nat) (ys:List Int) :
   HW Vp.prog [.code (cut [9,10,12] mBody)] (HRet cx cy d n false xs ys w) ⟨#[(.complex .f32 cx cy),(.int .i64 deep),(.int .i64 size),(.int .i64 most),y4,y5,y6,y7,y8,y9,y10,y11,y12,y13,y14,y15,y16,y17,y18,y19,y20,y21,y22,y23,y24,y25,y26,y27,y28,y29,y30,y31,y32,y33,y34,y35,y36,y37,y38,y39,y40,y41,y42,y43,y44,y45,y46,y47,y48,y49,y50,y51,y52,y53,y54,y55,y56,y57,y58,y59,y60,y61,y62,y63,y64,y65,y66,y67,y68,y69,y70],[]⟩ w:=by
 rw [cut_mBody]
 refine .seq (.code0 ?_)
 unfold mR0; (try unfold mY0); (try unfold mE); (try unfold mD); (try unfold mB); unfold mBody Tryz.f5
 dsimp only [Option.getD]
 go_wp2
 show HW _ _ _ _ _
 refine .seq (.seq (.code0 ?_))
 unfold mR1; (try unfold mY0); (try unfold mE); (try unfold mD); (try unfold mB); unfold mBody Tryz.f5
 dsimp only [Option.getD]
 go_wp2_with (go_at_call 19; refine (h _).mono ?_; rintro e w1 ⟨rfl,rfl⟩)
 show HW _ _ _ _ _
 refine .cond (t:=true) rfl (.seq (.code0 ?_))
 unfold mR2; (try unfold mY0); (try unfold mE); (try unfold mD); (try unfold mB); unfold mBody Tryz.f5
 dsimp only [Option.getD]
 go_wp2
 exact .stop ⟨w.heap.size,_,rfl,rfl,rfl,rfl,Nat.le_refl _,by rw [if_neg (by simp)]; exact zero_box w⟩
set_option maxRecDepth 100000 in
set_option maxHeartbeats 4000000 in

theorem hm_far {ex ey:Nat} (h:∀ W,Calls Vp.prog 19 #[.complex .f32 cx cy,.int .i64 d,.int .i64 n] W fun e w' => e=.returned (.bool true) ∧ W=w') (hp:∀ W,Calls Vp.prog 20 #[.complex .f32 cx cy,.int .i64 d,.int .i64 n,.int .i64 n] W fun e w' => e=.returned (.complex .f32 ex ey) ∧ W=w')
   (hf:(FloatKind.f32.format.order ex 1090519040 == some .gt || FloatKind.f32.format.order ey 1090519040 == some .gt)=true) (y4 y5 y6 y7 y8 y9 y10 y11 y12 y13 y14 y15 y16 y17 y18 y19 y20 y21 y22 y23 y24 y25 y26 y27 y28 y29 y30 y31 y32 y33 y34 y35 y36 y37 y38 y39 y40 y41 y42 y43 y44 y45 y46 y47 y48 y49 y50 y51 y52 y53 y54 y55 y56 y57 y58 y59 y60 y61 y62 y63 y64 y65 y66 y67 y68 y69 y70:Value) (w:World) (xs:List Nat) (ys:List Int) :
   HW Vp.prog [.code (cut [9,10,12] mBody)] (HRet cx cy d n false xs ys w) ⟨#[(.complex .f32 cx cy),(.int .i64 d),(.int .i64 n),(.int .i64 most),y4,y5,y6,y7,y8,y9,y10,y11,y12,y13,y14,y15,y16,y17,y18,y19,y20,y21,y22,y23,y24,y25,y26,y27,y28,y29,y30,y31,y32,y33,y34,y35,y36,y37,y38,y39,y40,y41,y42,y43,y44,y45,y46,y47,y48,y49,y50,y51,y52,y53,y54,y55,y56,y57,y58,y59,y60,y61,y62,y63,y64,y65,y66,y67,y68,y69,y70],[]⟩ w:=by
 rw [cut_mBody]
 refine .seq (.code0 ?_)
 unfold mR0; (try unfold mY0); (try unfold mE); (try unfold mD); (try unfold mB); unfold mBody Tryz.f5
 dsimp only [Option.getD]
 go_wp2
 show HW _ _ _ _ _
 refine .seq (.seq (.code0 ?_))
 unfold mR1; (try unfold mY0); (try unfold mE); (try unfold mD); (try unfold mB); unfold mBody Tryz.f5
 dsimp only [Option.getD]
 go_wp2_with (go_at_call 19; refine (h _).mono ?_; rintro e w1 ⟨rfl,rfl⟩)
 show HW _ _ _ _ _
 refine .cond (t:=false) rfl (.skip (.seq (.code0 ?_)))
 unfold mR3; (try unfold mY0); (try unfold mE); (try unfold mD); (try unfold mB); unfold mBody Tryz.f5
 dsimp only [Option.getD]
 go_wp2_with (go_at_call 20; refine (hp _).mono ?_; rintro e w1 ⟨rfl,rfl⟩)
 show HW _ _ _ _ _
 refine .seq (.seq (.code0 ?_))
 cases h1:(FloatKind.f32.format.order ex 1090519040 == some .gt) with
 | true =>
   unfold mR4; (try unfold mY0); (try unfold mE); (try unfold mD); (try unfold mB); unfold mBody Tryz.f5
   dsimp only [Option.getD]
   go_wp2
   show HW _ _ _ _ _
   refine .cond (t:=true) rfl (.seq (.code0 ?_))
   unfold mR5; (try unfold mY0); (try unfold mE); (try unfold mD); (try unfold mB); unfold mBody Tryz.f5
   dsimp only [Option.getD]
   go_wp2
   exact .stop ⟨w.heap.size,_,rfl,rfl,rfl,rfl,Nat.le_refl _,by rw [if_neg (by simp)]; exact zero_box w⟩
 | false =>
   rw [h1,Bool.false_or] at hf
   unfold mR4; (try unfold mY0); (try unfold mE); (try unfold mD); (try unfold mB); unfold mBody Tryz.f5
   dsimp only [Option.getD]
   go_wp2
   show HW _ _ _ _ _
   refine .cond (t:=true) rfl (.seq (.code0 ?_))
   unfold mR5; (try unfold mY0); (try unfold mE); (try unfold mD); (try unfold mB); unfold mBody Tryz.f5
   dsimp only [Option.getD]
   go_wp2
   exact .stop ⟨w.heap.size,_,rfl,rfl,rfl,rfl,Nat.le_refl _,by rw [if_neg (by simp)]; exact zero_box w⟩
set_option maxRecDepth 100000 in
set_option maxHeartbeats 4000000 in

theorem hm_made {ex ey:Nat} (hn:n ≤ 8) (h:∀ W,Calls Vp.prog 19 #[.complex .f32 cx cy,.int .i64 d,.int .i64 n] W fun e w' => e=.returned (.bool true) ∧ W=w') (hp:∀ W,Calls Vp.prog 20 #[.complex .f32 cx cy,.int .i64 d,.int .i64 n,.int .i64 n] W fun e w' => e=.returned (.complex .f32 ex ey) ∧ W=w')
   (hf1:(FloatKind.f32.format.order ex 1090519040 == some .gt)=false) (hf2:(FloatKind.f32.format.order ey 1090519040 == some .gt)=false) (y4 y5 y6 y7 y8 y9 y10 y11 y12 y13 y14 y15 y16 y17 y18 y19 y20 y21 y22 y23 y24 y25 y26 y27 y28 y29 y30 y31 y32 y33 y34 y35 y36 y37 y38 y39 y40 y41 y42 y43 y44 y45 y46 y47 y48 y49 y50 y51 y52 y53 y54 y55 y56 y57 y58 y59 y60 y61 y62 y63 y64 y65 y66 y67 y68 y69 y70:Value) (w:World) :
   HW Vp.prog [.code (cut [9,10,12] mBody)] (HMade cx cy d n most w) ⟨#[(.complex .f32 cx cy),(.int .i64 d),(.int .i64 n),(.int .i64 most),y4,y5,y6,y7,y8,y9,y10,y11,y12,y13,y14,y15,y16,y17,y18,y19,y20,y21,y22,y23,y24,y25,y26,y27,y28,y29,y30,y31,y32,y33,y34,y35,y36,y37,y38,y39,y40,y41,y42,y43,y44,y45,y46,y47,y48,y49,y50,y51,y52,y53,y54,y55,y56,y57,y58,y59,y60,y61,y62,y63,y64,y65,y66,y67,y68,y69,y70],[]⟩ w:=by
 obtain ⟨iF,hiF,hzF0,hzF1,hzF2⟩:=info_parts infoF
 obtain ⟨iI,hiI,hzI0,hzI1,hzI2⟩:=info_parts infoI
 have hnn:n * n ≤ 64:=Nat.mul_le_mul hn hn
 obtain ⟨N,hN⟩:∃ N,n * n=N:=⟨_,rfl⟩
 rw [hN] at hnn
 have hN2:((N:Nat):Int)=(n:Int) * n:=by rw [← Int.natCast_mul,hN]
 obtain ⟨cF,hcF,hF⟩:=run_make_0 (P:=Vp.prog) 26 42 iF _ (Vp.und Tryz.underlying26) hiF hzF0 N (by omega) (by omega)
 obtain ⟨cI,hcI,hI⟩:=run_make_0 (P:=Vp.prog) 27 3 iI _ (Vp.und Tryz.underlying27) hiI hzI0 N (by omega) (by omega)
 rw [hzF1] at hcF
 rw [hzI1] at hcI
 rw [hN2] at hF hI
 clear hiF hzF0 hzF1 hzF2 hiI hzI0 hzI1 hzI2 hN2
 rw [cut_mBody]
 refine .seq (.code0 ?_)
 unfold mR0; (try unfold mY0); (try unfold mE); (try unfold mD); (try unfold mB); unfold mBody Tryz.f5
 dsimp only [Option.getD]
 go_wp2
 show HW _ _ _ _ _
 refine .seq (.seq (.code0 ?_))
 unfold mR1; (try unfold mY0); (try unfold mE); (try unfold mD); (try unfold mB); unfold mBody Tryz.f5
 dsimp only [Option.getD]
 go_wp2_with (go_at_call 19; refine (h _).mono ?_; rintro e w1 ⟨rfl,rfl⟩)
 show HW _ _ _ _ _
 refine .cond (t:=false) rfl (.skip (.seq (.code0 ?_)))
 unfold mR3; (try unfold mY0); (try unfold mE); (try unfold mD); (try unfold mB); unfold mBody Tryz.f5
 dsimp only [Option.getD]
 go_wp2_with (go_at_call 20; refine (hp _).mono ?_; rintro e w1 ⟨rfl,rfl⟩)
 show HW _ _ _ _ _
 refine .seq (.seq (.code0 ?_))
 unfold mR4; (try unfold mY0); (try unfold mE); (try unfold mD); (try unfold mB); unfold mBody Tryz.f5
 dsimp only [Option.getD]
 go_wp2
 show HW _ _ _ _ _
 refine .cond (t:=false) rfl (.skip (.seq (.code0 ?_)))
 unfold mR6; (try unfold mY0); (try unfold mE); (try unfold mD); (try unfold mB); unfold mBody Tryz.f5
 dsimp only [Option.getD]
 go_wp2
 show HW _ _ _ _ _
 refine .seq (.code0 ?_)
 unfold mR7; (try unfold mY0); (try unfold mE); (try unfold mD); (try unfold mB); unfold mBody Tryz.f5
 dsimp only [Option.getD]
 go_wp2
 show HW _ _ _ _ _
 refine .seq (.code0 ?_)
 unfold mR8; (try unfold mY0); (try unfold mE); (try unfold mD); (try unfold mB); unfold mBody Tryz.f5
 dsimp only [Option.getD]
 go_wp2
 show HW _ _ _ _ _
 clear hF hI
 subst hN
 exact .seq (.stop ⟨w.heap.size,w.heap.size + 1,w.heap.size + 1 + 1,w.heap.size + 1 + 1 + 1,rfl,rfl,rfl,rfl,rfl,rfl,rfl,rfl,rfl,TX.start w cx cy d n hcF hcI (by unfold maxLen; omega)⟩)
def H12 (cx cy d n rb ob:Nat) (ch:Value) (gs gm N:Nat) (xs:List Nat) (ys:List Int) (w:World) (t:List Item) (a:Act) (W:World):Prop :=
 t=[.code (.refuse "12"),.code mZ,.inLoop mY,.inBlock 0,.code (.seq mR16 .ret)] ∧ MA rb ob ch a ∧ TX w rb ob cx cy d n (n * n) N N gs gm xs ys W
set_option maxRecDepth 100000 in
set_option maxHeartbeats 4000000 in

theorem hm_first {rb ob gs gm N:Nat} {ch:Value} {xs:List Nat} {ys:List Int} {a:Act} {w W:World} (hs:a.tmps.size=71) (h8:a.tmps[8]?=some (.pointer (some ⟨rb,0,none⟩))) (h11:a.tmps[11]?=some (.pointer (some ⟨ob,0,none⟩))) (h12:a.tmps[12]?=some ch) (hd:a.defers=[])
   (T:TX w rb ob cx cy d n (n * n) N N gs gm xs ys W):HW Vp.prog [.code mF] (H12 cx cy d n rb ob ch gs gm N xs ys w) a W:=by
 obtain ⟨t,ds⟩:=a
 dsimp only at hs h8 h11 h12 hd
 obtain ⟨y0,y1,y2,y3,y4,y5,y6,y7,y8,y9,y10,y11,y12,y13,y14,y15,y16,y17,y18,y19,y20,y21,y22,y23,y24,y25,y26,y27,y28,y29,y30,y31,y32,y33,y34,y35,y36,y37,y38,y39,y40,y41,y42,y43,y44,y45,y46,y47,y48,y49,y50,y51,y52,y53,y54,y55,y56,y57,y58,y59,y60,y61,y62,y63,y64,y65,y66,y67,y68,y69,y70,rfl⟩:=arr71 t hs
 cases h8; cases h11; cases h12; subst hd
 unfold mF
 refine .seq (.seq (.code0 ?_))
 unfold mR11; (try unfold mY0); (try unfold mE); (try unfold mD); (try unfold mB); unfold mBody Tryz.f5
 dsimp only [Option.getD]
 go_wp2
 show HW _ _ _ _ _
 refine .block (.loop ?_)
 have hY:Item.code mY=Item.code (.seq (.refuse "12") mZ):=rfl
 rw [hY]
 exact .seq (.stop ⟨rfl,⟨rfl,rfl,rfl,rfl,rfl,rfl⟩,T⟩)
set_option maxRecDepth 100000 in
set_option maxHeartbeats 4000000 in

theorem hm_next {rb ob gs gm N sb mb:Nat} {ch:Value} {xs zs:List Nat} {ys us:List Int} {a:Act} {w W:World} (hn:n ≤ 8) (hN:N + n ≤ n * n) (h:MA rb ob ch a) (h55:a.tmps[55]?=some (.tuple #[.agg #[.slice (some ⟨sb,0,none⟩) n n,.slice (some ⟨mb,0,none⟩) n n],.bool true])) (h56:a.tmps[56]?=some (.bool true))
   (T:TX w rb ob cx cy d n (n * n) N N gs gm xs ys W) (hz:zs.length=n) (hu:us.length=n) {fz fu:Nat × Nat} (hsb:W.heap[sb]?=some (.cells (zs.map floV).toArray 42 fz)) (hmb:W.heap[mb]?=some (.cells (us.map intV).toArray 3 fu)) (hso:sb ≠ gs ∧ sb ≠ ob) (hmo:mb ≠ gs ∧ mb ≠ gm ∧ mb ≠ ob) :
   HW Vp.prog [.code mZ,.inLoop mY,.inBlock 0,.code (.seq mR16 .ret)] (H12 cx cy d n rb ob ch gs gm (N + n) (xs ++ zs) (ys ++ us) w) a W:=by
 obtain ⟨iF,hiF,hzF0,hzF1,hzF2⟩:=info_parts infoF
 obtain ⟨iI,hiI,hzI0,hzI1,hzI2⟩:=info_parts infoI
 obtain ⟨t,ds⟩:=a
 obtain ⟨hs,h8,h11,h12,h54,hd⟩:=h
 dsimp only at hs h8 h11 h12 h54 hd h55 h56
 obtain ⟨y0,y1,y2,y3,y4,y5,y6,y7,y8,y9,y10,y11,y12,y13,y14,y15,y16,y17,y18,y19,y20,y21,y22,y23,y24,y25,y26,y27,y28,y29,y30,y31,y32,y33,y34,y35,y36,y37,y38,y39,y40,y41,y42,y43,y44,y45,y46,y47,y48,y49,y50,y51,y52,y53,y54,y55,y56,y57,y58,y59,y60,y61,y62,y63,y64,y65,y66,y67,y68,y69,y70,rfl⟩:=arr71 t hs
 cases h8; cases h11; cases h12; cases h54; cases h55; cases h56; subst hd
 have hsz:=(Array.getElem?_eq_some_iff.1 hsb).1
 have hmz:=(Array.getElem?_eq_some_iff.1 hmb).1
 have HT1:=Lib.hid (T.alloc (.cells #[.slice (some ⟨sb,0,none⟩) n n,.slice (some ⟨mb,0,none⟩) n n] 60))
 have HB1:=Lib.hid ((Box.new W #[.slice (some ⟨sb,0,none⟩) n n,.slice (some ⟨mb,0,none⟩) n n] 60).up (w0:=w) T.old)
 have hs1:(W.alloc (.cells #[.slice (some ⟨sb,0,none⟩) n n,.slice (some ⟨mb,0,none⟩) n n] 60)).heap[sb]?=some (.cells (zs.map floV).toArray 42 fz):=by rw [heap_al,Array.getElem?_push,if_neg (by omega)]; exact hsb
 have hm1:(W.alloc (.cells #[.slice (some ⟨sb,0,none⟩) n n,.slice (some ⟨mb,0,none⟩) n n] 60)).heap[mb]?=some (.cells (us.map intV).toArray 3 fu):=by rw [heap_al,Array.getElem?_push,if_neg (by omega)]; exact hmb
 have hrk:w.heap.size ≤ W.heap.size:=T.old.size
 have hko:ob ≠ W.heap.size:=by have:=T.O.lt; omega
 clear T hsb hmb
 have hZ:Item.code mZ=Item.code (.seq (.cond (.tmp 56) .skip (.exit 0)) (.block 1 (.seq mR13 (.seq mR14 mR15)))):=rfl
 rw [hZ]
 refine .seq (.cond (t:=true) rfl (.skip (.block (.seq (.code0 ?_)))))
 unfold mR13; (try unfold mY0); (try unfold mE); (try unfold mD); (try unfold mB); unfold mBody Tryz.f5
 dsimp only [Option.getD]
 go_wp2
 show HW _ _ _ _ _
 refine .seq (.code0 ?_)
 generalize W.alloc (.cells #[.slice (some ⟨sb,0,none⟩) n n,.slice (some ⟨mb,0,none⟩) n n] 60)=W1 at *
 generalize W.heap.size=rk at *
 obtain ⟨-,-,-,k3,-⟩:=HT1.out.oc
 have r0:=HB1.out.cell 0 _ rfl
 unfold mR14; (try unfold mY0); (try unfold mE); (try unfold mD); (try unfold mB); unfold mBody Tryz.f5
 dsimp only [Option.getD]
 go_wp2_with (at_builtin; refine wpList_append_own_spare _ rfl _ _ _ rfl w.heap.size 42 iF 1 (Vp.und Tryz.underlying26) hiF hzF1 gs N (n * n) (xs.map floV) rfl HT1.out.S ⟨sb,0,none⟩ n n (zs.map floV) rfl (by simp [hz]) (World.news_of_block (cs:=(zs.map floV).toArray) (t:=42) (fr:=fz) hs1) (by intro u hu; obtain ⟨x,_,rfl⟩:=List.mem_map.1 hu; rfl) hN ?_; intro w6 hown hgrow; obtain ⟨T6,k6,f6⟩:=HT1.out.smooth hown hgrow; have HT6:=Lib.hid T6; have HG:=Lib.hid hgrow; clear T6 hown hgrow)
 show HW _ _ _ _ _
 refine .code0 ?_
 have hrow:∀ k,some gs=some k → w.heap.size ≤ k:=fun k hk => (HT1.out.S.lt k hk).1
 have HB6:=Lib.hid (((HB1.out.grown HG.out (ownsRow_ne HT1.out.S HB1.out.blk (by decide)) hrow).other (p:=⟨ob,3,none⟩) HT1.out.ho (Ne.symm hko) (.slice (some ⟨gs,0,none⟩) (N + n) (n * n))))
 have hm6:(w6.setCell ⟨ob,3,none⟩ (.slice (some ⟨gs,0,none⟩) (N + n) (n * n))).heap[mb]?=some (.cells (us.map intV).toArray 3 fu):=by
   rw [Below.heap_setCell _ _ _ _ hmo.2.2,HG.out.block mb (Array.getElem?_eq_some_iff.1 hm1).1 (fun e => hmo.1 (Option.some.inj e))]
   exact hm1
 clear HB1 HG hs1 hm1 HT1 k3 r0 k6 f6
 generalize w6.setCell ⟨ob,3,none⟩ (.slice (some ⟨gs,0,none⟩) (N + n) (n * n))=W7 at *
 obtain ⟨-,-,-,-,k4⟩:=HT6.out.oc
 have r1:=HB6.out.cell 1 _ rfl
 unfold mR15; (try unfold mY0); (try unfold mE); (try unfold mD); (try unfold mB); unfold mBody Tryz.f5
 dsimp only [Option.getD]
 go_wp2_with (at_builtin; refine wpList_append_own_spare _ rfl _ _ _ rfl w.heap.size 3 iI 1 (Vp.und Tryz.underlying27) hiI hzI1 gm N (n * n) (ys.map intV) rfl HT6.out.M ⟨mb,0,none⟩ n n (us.map intV) rfl (by simp [hu]) (World.news_of_block (cs:=(us.map intV).toArray) (t:=3) (fr:=fu) hm6) (by intro u hu; obtain ⟨x,_,rfl⟩:=List.mem_map.1 hu; rfl) hN ?_; intro w8 hown hgrow; obtain ⟨T8,k8,f8⟩:=HT6.out.mark hown hgrow; have HT8:=Lib.hid T8; clear T8 hown hgrow)
 show HW _ _ _ _ _
 refine .inBlock (.inLoop ?_)
 have hY:Item.code mY=Item.code (.seq (.refuse "12") mZ):=rfl
 rw [hY]
 exact .seq (.stop ⟨rfl,⟨rfl,rfl,rfl,rfl,rfl,rfl⟩,HT8.out⟩)
set_option maxRecDepth 100000 in
set_option maxHeartbeats 4000000 in

theorem hm_last {rb ob gs gm:Nat} {ch v0:Value} {xs:List Nat} {ys:List Int} {a:Act} {w W:World} (h:MA rb ob ch a) (h55:a.tmps[55]?=some v0) (h56:a.tmps[56]?=some (.bool false))
   (T:TX w rb ob cx cy d n (n * n) (n * n) (n * n) gs gm xs ys W) :
   HW Vp.prog [.code mZ,.inLoop mY,.inBlock 0,.code (.seq mR16 .ret)] (HRet cx cy d n true xs ys w) a W:=by
 obtain ⟨t,ds⟩:=a
 obtain ⟨hs,h8,h11,h12,h54,hd⟩:=h
 dsimp only at hs h8 h11 h12 h54 hd h55 h56
 obtain ⟨y0,y1,y2,y3,y4,y5,y6,y7,y8,y9,y10,y11,y12,y13,y14,y15,y16,y17,y18,y19,y20,y21,y22,y23,y24,y25,y26,y27,y28,y29,y30,y31,y32,y33,y34,y35,y36,y37,y38,y39,y40,y41,y42,y43,y44,y45,y46,y47,y48,y49,y50,y51,y52,y53,y54,y55,y56,y57,y58,y59,y60,y61,y62,y63,y64,y65,y66,y67,y68,y69,y70,rfl⟩:=arr71 t hs
 cases h8; cases h11; cases h12; cases h54; cases h55; cases h56; subst hd
 have HT:=Lib.hid T
 obtain ⟨o0,o1,o2,o3,o4⟩:=T.oc
 obtain ⟨c0,c1,c2,c3,c4⟩:=T.rc
 obtain ⟨f0,f1,f2,f3,f4⟩:=T.R.free5
 have hne:=T.ne
 have hr:=T.hr
 clear T
 have hZ:Item.code mZ=Item.code (.seq (.cond (.tmp 56) .skip (.exit 0)) (.block 1 (.seq mR13 (.seq mR14 mR15)))):=rfl
 rw [hZ]
 refine .seq (.cond (t:=false) rfl (.exit (s':=[.code (.seq mR16 .ret)]) rfl (.seq (.code0 ?_))))
 unfold mR16; (try unfold mY0); (try unfold mE); (try unfold mD); (try unfold mB); unfold mBody Tryz.f5
 dsimp only [Option.getD]
 go_wp2
 show HW _ _ _ _ _
 refine .stop ⟨rb,_,rfl,rfl,rfl,rfl,hr,?_⟩
 rw [if_pos rfl]
 have b0:=HT.out.R
 have b1:=b0.set hr 0 (.complex .f32 cx cy)
 have b2:=b1.set hr 1 (.int .i64 d)
 have b3:=b2.set hr 2 (.int .i64 n)
 have b4:=b3.set hr 3 (.slice (some ⟨gs,0,none⟩) (n * n) (n * n))
 have b5:=b4.set hr 4 (.slice (some ⟨gm,0,none⟩) (n * n) (n * n))
 refine ⟨gs,gm,b5,?_,?_⟩
 · exact ownsRow_set (ownsRow_set (ownsRow_set (ownsRow_set (ownsRow_set HT.out.S b0.blk (by decide) _) b1.blk (by decide) _) b2.blk (by decide) _) b3.blk (by decide) _) b4.blk (by decide) _
 · exact ownsRow_set (ownsRow_set (ownsRow_set (ownsRow_set (ownsRow_set HT.out.M b0.blk (by decide) _) b1.blk (by decide) _) b2.blk (by decide) _) b3.blk (by decide) _) b4.blk (by decide) _
end
end Go.Proofs.YthhfljldbfgpcaaGreatDoor
end
