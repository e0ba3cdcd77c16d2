/- Merged texts: Sen. -/
import Derived.Test.YthhfljldbfgpcaaGreatDoorT20
import Derived.Test.YthhfljldbfgpcaaGreatDoorT33
set_option linter.all false
section
namespace Go.Proofs.YthhfljldbfgpcaaGreatDoor
open Go.RowKit Go.Proofs.YthhfljldbfgpcaaGreatDoor.Co Go.Proofs.YthhfljldbfgpcaaGreatDoor.Ok
attribute [local go_sem ↓] Go.wp_at_zero Go.wp_at_succ
set_option maxRecDepth 100000 in
set_option maxHeartbeats 4000000 in
theorem arr61 (t:Array Value) (h:t.size=61):∃ y0 y1 y2 y3 y4 y5 y6 y7 y8 y9 y10 y11 y12 y13 y14 y15 y16 y17 y18 y19 y20 y21 y22 y23 y24 y25 y26 y27 y28 y29 y30 y31 y32 y33 y34 y35 y36 y37 y38 y39 y40 y41 y42 y43 y44 y45 y46 y47 y48 y49 y50 y51 y52 y53 y54 y55 y56 y57 y58 y59 y60:Value,t=#[y0,y1,y2,y3,y4,y5,y6,y7,y8,y9,y10,y11,y12,y13,y14,y15,y16,y17,y18,y19,y20,y21,y22,y23,y24,y25,y26,y27,y28,y29,y30,y31,y32,y33,y34,y35,y36,y37,y38,y39,y40,y41,y42,y43,y44,y45,y46,y47,y48,y49,y50,y51,y52,y53,y54,y55,y56,y57,y58,y59,y60]:=by
 obtain ⟨l⟩:=t
 simp only [List.size_toArray] at h
 rcases l with _ | ⟨y0,l⟩
 · simp at h
 rcases l with _ | ⟨y1,l⟩
 · simp at h
 rcases l with _ | ⟨y2,l⟩
 · simp at h
 rcases l with _ | ⟨y3,l⟩
 · simp at h
 rcases l with _ | ⟨y4,l⟩
 · simp at h
 rcases l with _ | ⟨y5,l⟩
 · simp at h
 rcases l with _ | ⟨y6,l⟩
 · simp at h
 rcases l with _ | ⟨y7,l⟩
 · simp at h
 rcases l with _ | ⟨y8,l⟩
 · simp at h
 rcases l with _ | ⟨y9,l⟩
 · simp at h
 rcases l with _ | ⟨y10,l⟩
 · simp at h
 rcases l with _ | ⟨y11,l⟩
 · simp at h
 rcases l with _ | ⟨y12,l⟩
 · simp at h
 rcases l with _ | ⟨y13,l⟩
 · simp at h
 rcases l with _ | ⟨y14,l⟩
 · simp at h
 rcases l with _ | ⟨y15,l⟩
 · simp at h
 rcases l with _ | ⟨y16,l⟩
 · simp at h
 rcases l with _ | ⟨y17,l⟩
 · simp at h
 rcases l with _ | ⟨y18,l⟩
 · simp at h
 rcases l with _ | ⟨y19,l⟩
 · simp at h
 rcases l with _ | ⟨y20,l⟩
 · simp at h
 rcases l with _ | ⟨y21,l⟩
 · simp at h
 rcases l with _ | ⟨y22,l⟩
 · simp at h
 rcases l with _ | ⟨y23,l⟩
 · simp at h
 rcases l with _ | ⟨y24,l⟩
 · simp at h
 rcases l with _ | ⟨y25,l⟩
 · simp at h
 rcases l with _ | ⟨y26,l⟩
 · simp at h
 rcases l with _ | ⟨y27,l⟩
 · simp at h
 rcases l with _ | ⟨y28,l⟩
 · simp at h
 rcases l with _ | ⟨y29,l⟩
 · simp at h
 rcases l with _ | ⟨y30,l⟩
 · simp at h
 rcases l with _ | ⟨y31,l⟩
 · simp at h
 rcases l with _ | ⟨y32,l⟩
 · simp at h
 rcases l with _ | ⟨y33,l⟩
 · simp at h
 rcases l with _ | ⟨y34,l⟩
 · simp at h
 rcases l with _ | ⟨y35,l⟩
 · simp at h
 rcases l with _ | ⟨y36,l⟩
 · simp at h
 rcases l with _ | ⟨y37,l⟩
 · simp at h
 rcases l with _ | ⟨y38,l⟩
 · simp at h
 rcases l with _ | ⟨y39,l⟩
 · simp at h
 rcases l with _ | ⟨y40,l⟩
 · simp at h
 rcases l with _ | ⟨y41,l⟩
 · simp at h
 rcases l with _ | ⟨y42,l⟩
 · simp at h
 rcases l with _ | ⟨y43,l⟩
 · simp at h
 rcases l with _ | ⟨y44,l⟩
 · simp at h
 rcases l with _ | ⟨y45,l⟩
 · simp at h
 rcases l with _ | ⟨y46,l⟩
 · simp at h
 rcases l with _ | ⟨y47,l⟩
 · simp at h
 rcases l with _ | ⟨y48,l⟩
 · simp at h
 rcases l with _ | ⟨y49,l⟩
 · simp at h
 rcases l with _ | ⟨y50,l⟩
 · simp at h
 rcases l with _ | ⟨y51,l⟩
 · simp at h
 rcases l with _ | ⟨y52,l⟩
 · simp at h
 rcases l with _ | ⟨y53,l⟩
 · simp at h
 rcases l with _ | ⟨y54,l⟩
 · simp at h
 rcases l with _ | ⟨y55,l⟩
 · simp at h
 rcases l with _ | ⟨y56,l⟩
 · simp at h
 rcases l with _ | ⟨y57,l⟩
 · simp at h
 rcases l with _ | ⟨y58,l⟩
 · simp at h
 rcases l with _ | ⟨y59,l⟩
 · simp at h
 rcases l with _ | ⟨y60,l⟩
 · simp at h
 rcases l with _ | ⟨y,l⟩
 · exact ⟨y0,y1,y2,y3,y4,y5,y6,y7,y8,y9,y10,y11,y12,y13,y14,y15,y16,y17,y18,y19,y20,y21,y22,y23,y24,y25,y26,y27,y28,y29,y30,y31,y32,y33,y34,y35,y36,y37,y38,y39,y40,y41,y42,y43,y44,y45,y46,y47,y48,y49,y50,y51,y52,y53,y54,y55,y56,y57,y58,y59,y60,rfl⟩
 · simp at h
noncomputable def sR0:Code:=match sBody with | .seq a _ => a | _ => .skip
noncomputable def sR1:Code:=match sBody with | .seq _ (.seq a _) => a | _ => .skip
noncomputable def sR2:Code:=match sX0 with | .seq a _ => a | _ => .skip
noncomputable def sR13:Code:=match sRow with | .seq _ (.seq _ (.seq _ a)) => a | _ => .skip
noncomputable def sR14:Code:=match sX0 with | .seq _ (.seq _ (.seq _ a)) => a | _ => .skip
noncomputable def sX:Code:=cut [0,13] sX0
theorem sBody_is:bodyOf Tryz.prog 21=sBody:=by kernel_rfl
theorem sX_eq:sX=.seq sR2 (.seq (.cond (.tmp 19) .skip (.exit 0)) (.seq (.block 1 (.seq sR3 (.seq sR4 (.seq sIn (.refuse "13"))))) sR14)):=by kernel_rfl
theorem cut_sBody:cut [0,13] sBody=.seq (.refuse "0") (.seq sR1 (.block 0 (.loop sX))):=by kernel_rfl
structure SA (ch:Value) (cx cy d n:Nat) (most:Int) (i:Nat) (a:Act):Prop where
 size:a.tmps.size=61
 t0:a.tmps[0]?=some ch
 t1:a.tmps[1]?=some (.complex .f32 cx cy)
 t2:a.tmps[2]?=some (.int .i64 d)
 t3:a.tmps[3]?=some (.int .i64 n)
 t4:a.tmps[4]?=some (.int .i64 most)
 t17:a.tmps[17]?=some (.int .i64 n)
 t18:a.tmps[18]?=some (.int .i64 i)
theorem SA.arr {ch:Value} {cx cy d n i:Nat} {most:Int} {a:Act} (h:SA ch cx cy d n most i a):∃ y5 y6 y7 y8 y9 y10 y11 y12 y13 y14 y15 y16 y19 y20 y21 y22 y23 y24 y25 y26 y27 y28 y29 y30 y31 y32 y33 y34 y35 y36 y37 y38 y39 y40 y41 y42 y43 y44 y45 y46 y47 y48 y49 y50 y51 y52 y53 y54 y55 y56 y57 y58 y59 y60:Value,a=⟨#[ch,(.complex .f32 cx cy),(.int .i64 d),(.int .i64 n),(.int .i64 most),y5,y6,y7,y8,y9,y10,y11,y12,y13,y14,y15,y16,(.int .i64 n),(.int .i64 i),y19,y20,y21,y22,y23,y24,y25,y26,y27,y28,y29,y30,y31,y32,y33,y34,y35,y36,y37,y38,y39,y40,y41,y42,y43,y44,y45,y46,y47,y48,y49,y50,y51,y52,y53,y54,y55,y56,y57,y58,y59,y60],a.defers⟩:=by
 obtain ⟨t,ds⟩:=a
 obtain ⟨y0,y1,y2,y3,y4,y5,y6,y7,y8,y9,y10,y11,y12,y13,y14,y15,y16,y17,y18,y19,y20,y21,y22,y23,y24,y25,y26,y27,y28,y29,y30,y31,y32,y33,y34,y35,y36,y37,y38,y39,y40,y41,y42,y43,y44,y45,y46,y47,y48,y49,y50,y51,y52,y53,y54,y55,y56,y57,y58,y59,y60,rfl⟩:=arr61 t h.size
 obtain ⟨_,h0,h1,h2,h3,h4,h17,h18⟩:=h
 cases h0; cases h1; cases h2; cases h3; cases h4; cases h17; cases h18
 exact ⟨y5,y6,y7,y8,y9,y10,y11,y12,y13,y14,y15,y16,y19,y20,y21,y22,y23,y24,y25,y26,y27,y28,y29,y30,y31,y32,y33,y34,y35,y36,y37,y38,y39,y40,y41,y42,y43,y44,y45,y46,y47,y48,y49,y50,y51,y52,y53,y54,y55,y56,y57,y58,y59,y60,rfl⟩
def HS (ch:Value) (cx cy d n:Nat) (most:Int) (st:Nat → Nat → Int) (sm:Nat → Nat → Nat) (ds:List Deferred) (i:Nat) (t:List Item) (a:Act) (w':World):Prop :=
 (i < n ∧ t=[.code (.refuse "13"),.inBlock 1,.code sR14,.inLoop sX,.inBlock 0] ∧ ∃ w:World,RowN ch cx cy d n most st sm ds w i a w') ∨ (i=n ∧ t=[] ∧ a.tmps.size=61 ∧ a.defers=ds)
section
variable {cx cy d n:Nat} {most:Int} {px py:Nat → Nat → Nat} {bx:Nat → Nat → Value} {st:Nat → Nat → Int} {sm:Nat → Nat → Nat} (C:CellOK cx cy d n most px py bx st sm) (hn:n ≤ 8) {ch:Value} {i:Nat} {a:Act}
include C hn
set_option maxRecDepth 100000 in
set_option maxHeartbeats 4000000 in
theorem hw_head (hi:i ≤ n) (h:SA ch cx cy d n most i a) (w:World):HW Vp.prog [.code sX,.inLoop sX,.inBlock 0] (HS ch cx cy d n most st sm a.defers i) a w:=by
 obtain ⟨y5,y6,y7,y8,y9,y10,y11,y12,y13,y14,y15,y16,y19,y20,y21,y22,y23,y24,y25,y26,y27,y28,y29,y30,y31,y32,y33,y34,y35,y36,y37,y38,y39,y40,y41,y42,y43,y44,y45,y46,y47,y48,y49,y50,y51,y52,y53,y54,y55,y56,y57,y58,y59,y60,ha⟩:=h.arr
 obtain ⟨t,ds⟩:=a
 dsimp only at ha ⊢
 rw [ha]
 clear ha h
 rw [show Item.code sX=Item.code (.seq sR2 (.seq (.cond (.tmp 19) .skip (.exit 0)) (.seq (.block 1 (.seq sR3 (.seq sR4 (.seq sIn (.refuse "13"))))) sR14))) from congrArg Item.code sX_eq]
 refine .seq ?_
 by_cases hlt:i < n
 · refine HW.codeN (N:=fun a' w' => w'=w ∧ a'=⟨#[ch,(.complex .f32 cx cy),(.int .i64 d),(.int .i64 n),(.int .i64 most),y5,y6,y7,y8,y9,y10,y11,y12,y13,y14,y15,y16,(.int .i64 n),(.int .i64 i),.bool true,y20,y21,y22,y23,y24,y25,y26,y27,y28,y29,y30,y31,y32,y33,y34,y35,y36,y37,y38,y39,y40,y41,y42,y43,y44,y45,y46,y47,y48,y49,y50,y51,y52,y53,y54,y55,y56,y57,y58,y59,y60],ds⟩) ?_ ?_
   · unfold sR2 sX0 sBody Tryz.f21
     dsimp only [Option.getD]
     go_wp2
     exact ⟨rfl,rfl⟩
   · rintro _ _ ⟨rfl,rfl⟩
     refine .seq (.cond (t:=true) rfl (.skip (.seq (.block (.seq ?_)))))
     refine HW.codeN (row_wp C hn i hlt ch ds _ _ _ _ _ _ _ _ _ _ _ _ _ _ _ _ _ _ _ _ _ _ _ _ _ _ _ _ _ _ _ _ _ _ _ _ _ _ _ _ _ _ _ _ _ _ _ _ _ _ _ _ _ _ _) fun a1 w1 h1 => .seq (HW.codeN h1 fun a2 w2 h2 => .seq (HW.codeN h2 fun a3 w3 h3 => .stop (.inl ⟨hlt,rfl,_,h3⟩)))
 · obtain rfl:i=n:=by omega
   refine HW.codeN (N:=fun a' w' => w'=w ∧ a'=⟨#[ch,(.complex .f32 cx cy),(.int .i64 d),(.int .i64 i),(.int .i64 most),y5,y6,y7,y8,y9,y10,y11,y12,y13,y14,y15,y16,(.int .i64 i),(.int .i64 i),.bool false,y20,y21,y22,y23,y24,y25,y26,y27,y28,y29,y30,y31,y32,y33,y34,y35,y36,y37,y38,y39,y40,y41,y42,y43,y44,y45,y46,y47,y48,y49,y50,y51,y52,y53,y54,y55,y56,y57,y58,y59,y60],ds⟩) ?_ ?_
   · unfold sR2 sX0 sBody Tryz.f21
     dsimp only [Option.getD]
     go_wp2
     exact ⟨rfl,rfl⟩
   · rintro _ _ ⟨rfl,rfl⟩
     exact .seq (.cond (t:=false) rfl (.exit (s':=[]) rfl (.stop (.inr ⟨rfl,rfl,rfl,rfl⟩))))
set_option maxRecDepth 100000 in
set_option maxHeartbeats 4000000 in

theorem hw_next (hi:i < n) (h:SA ch cx cy d n most i a) (w:World):HW Vp.prog [.inBlock 1,.code sR14,.inLoop sX,.inBlock 0] (HS ch cx cy d n most st sm a.defers (i + 1)) a w:=by
 obtain ⟨y5,y6,y7,y8,y9,y10,y11,y12,y13,y14,y15,y16,y19,y20,y21,y22,y23,y24,y25,y26,y27,y28,y29,y30,y31,y32,y33,y34,y35,y36,y37,y38,y39,y40,y41,y42,y43,y44,y45,y46,y47,y48,y49,y50,y51,y52,y53,y54,y55,y56,y57,y58,y59,y60,ha⟩:=h.arr
 obtain ⟨t,ds⟩:=a
 dsimp only at ha ⊢
 rw [ha]
 clear ha h
 refine .inBlock (HW.codeN (N:=fun a' w' => w'=w ∧ SA ch cx cy d n most (i + 1) a' ∧ a'.defers=ds) ?_ ?_)
 · unfold sR14 sX0 sBody Tryz.f21
   dsimp only [Option.getD]
   go_wp2
   exact ⟨rfl,⟨rfl,rfl,rfl,rfl,rfl,rfl,rfl,by go_num⟩,rfl⟩
 · rintro a1 _ ⟨rfl,h1,rfl⟩
   exact .inLoop (hw_head C hn hi h1 _)
set_option maxRecDepth 100000 in
set_option maxHeartbeats 4000000 in

theorem hw_first (hsz:a.tmps.size=61) (h0:a.tmps[0]?=some ch) (h1:a.tmps[1]?=some (.complex .f32 cx cy)) (h2:a.tmps[2]?=some (.int .i64 d)) (h3:a.tmps[3]?=some (.int .i64 n)) (h4:a.tmps[4]?=some (.int .i64 most)) (w:World) :
   HW Vp.prog [.code (.seq sR1 (.block 0 (.loop sX)))] (HS ch cx cy d n most st sm a.defers 0) a w:=by
 obtain ⟨t,ds⟩:=a
 dsimp only at hsz h0 h1 h2 h3 h4 ⊢
 obtain ⟨y0,y1,y2,y3,y4,y5,y6,y7,y8,y9,y10,y11,y12,y13,y14,y15,y16,y17,y18,y19,y20,y21,y22,y23,y24,y25,y26,y27,y28,y29,y30,y31,y32,y33,y34,y35,y36,y37,y38,y39,y40,y41,y42,y43,y44,y45,y46,y47,y48,y49,y50,y51,y52,y53,y54,y55,y56,y57,y58,y59,y60,rfl⟩:=arr61 t hsz
 cases h0; cases h1; cases h2; cases h3; cases h4
 refine .seq (HW.codeN (N:=fun a' w' => w'=w ∧ SA y0 cx cy d n most 0 a' ∧ a'.defers=ds) ?_ ?_)
 · unfold sR1 sBody Tryz.f21
   dsimp only [Option.getD]
   go_wp2
   exact ⟨rfl,⟨rfl,rfl,rfl,rfl,rfl,rfl,rfl,rfl⟩,rfl⟩
 · rintro a1 _ ⟨rfl,h1,rfl⟩
   exact .block (.loop (hw_head C hn (Nat.zero_le _) h1 _))
end
end Go.Proofs.YthhfljldbfgpcaaGreatDoor
end
