import Derived.Test.YtjaehldnlamgkaaGreatDoorXe14
import Derived.Conc.EventLaws
import Derived.Conc.Own2
import Derived.Conc.Listed
import Derived.Conc.Own5
import Derived.Test.YtjaehldnlamgkaaGreatDoorXe0
import Derived.Test.YtjaehldnlamgkaaGreatDoorXeK
set_option linter.all false
set_option maxHeartbeats 16000000
set_option maxRecDepth 100000
namespace Go.Proofs.YtjaehldnlamgkaaGreatDoor
section
open Go.RowKit Co Ok
attribute [local go_sem ↓] Go.wp_at_zero Go.wp_at_succ
theorem Afr (t:Array Value)(h:t.size=61):∃y0 y1 y2 y3 y4 y5 y6 y7 y8 y9 y10 y11 y12 y13 y14 y15 y16 y17 y18 y19 y20 y21 y22 y23 y24 y25 y26 y27 y28 y29 y30 y31 y32 y33 y34 y35 y36 y37 y38 y39 y40 y41 y42 y43 y44 y45 y46 y47 y48 y49 y50 y51 y52 y53 y54 y55 y56 y57 y58 y59 y60:Value,t=#[y0,y1,y2,y3,y4,y5,y6,y7,y8,y9,y10,y11,y12,y13,y14,y15,y16,y17,y18,y19,y20,y21,y22,y23,y24,y25,y26,y27,y28,y29,y30,y31,y32,y33,y34,y35,y36,y37,y38,y39,y40,y41,y42,y43,y44,y45,y46,y47,y48,y49,y50,y51,y52,y53,y54,y55,y56,y57,y58,y59,y60]:=by
 obtain⟨l⟩:=t;simp only[Aoh]at h
 rcases l with _ |⟨y0,l⟩
 ·simp at h
 rcases l with _ |⟨y1,l⟩
 ·simp at h
 rcases l with _ |⟨y2,l⟩
 ·simp at h
 rcases l with _ |⟨y3,l⟩
 ·simp at h
 rcases l with _ |⟨y4,l⟩
 ·simp at h
 rcases l with _ |⟨y5,l⟩
 ·simp at h
 rcases l with _ |⟨y6,l⟩
 ·simp at h
 rcases l with _ |⟨y7,l⟩
 ·simp at h
 rcases l with _ |⟨y8,l⟩
 ·simp at h
 rcases l with _ |⟨y9,l⟩
 ·simp at h
 rcases l with _ |⟨y10,l⟩
 ·simp at h
 rcases l with _ |⟨y11,l⟩
 ·simp at h
 rcases l with _ |⟨y12,l⟩
 ·simp at h
 rcases l with _ |⟨y13,l⟩
 ·simp at h
 rcases l with _ |⟨y14,l⟩
 ·simp at h
 rcases l with _ |⟨y15,l⟩
 ·simp at h
 rcases l with _ |⟨y16,l⟩
 ·simp at h
 rcases l with _ |⟨y17,l⟩
 ·simp at h
 rcases l with _ |⟨y18,l⟩
 ·simp at h
 rcases l with _ |⟨y19,l⟩
 ·simp at h
 rcases l with _ |⟨y20,l⟩
 ·simp at h
 rcases l with _ |⟨y21,l⟩
 ·simp at h
 rcases l with _ |⟨y22,l⟩
 ·simp at h
 rcases l with _ |⟨y23,l⟩
 ·simp at h
 rcases l with _ |⟨y24,l⟩
 ·simp at h
 rcases l with _ |⟨y25,l⟩
 ·simp at h
 rcases l with _ |⟨y26,l⟩
 ·simp at h
 rcases l with _ |⟨y27,l⟩
 ·simp at h
 rcases l with _ |⟨y28,l⟩
 ·simp at h
 rcases l with _ |⟨y29,l⟩
 ·simp at h
 rcases l with _ |⟨y30,l⟩
 ·simp at h
 rcases l with _ |⟨y31,l⟩
 ·simp at h
 rcases l with _ |⟨y32,l⟩
 ·simp at h
 rcases l with _ |⟨y33,l⟩
 ·simp at h
 rcases l with _ |⟨y34,l⟩
 ·simp at h
 rcases l with _ |⟨y35,l⟩
 ·simp at h
 rcases l with _ |⟨y36,l⟩
 ·simp at h
 rcases l with _ |⟨y37,l⟩
 ·simp at h
 rcases l with _ |⟨y38,l⟩
 ·simp at h
 rcases l with _ |⟨y39,l⟩
 ·simp at h
 rcases l with _ |⟨y40,l⟩
 ·simp at h
 rcases l with _ |⟨y41,l⟩
 ·simp at h
 rcases l with _ |⟨y42,l⟩
 ·simp at h
 rcases l with _ |⟨y43,l⟩
 ·simp at h
 rcases l with _ |⟨y44,l⟩
 ·simp at h
 rcases l with _ |⟨y45,l⟩
 ·simp at h
 rcases l with _ |⟨y46,l⟩
 ·simp at h
 rcases l with _ |⟨y47,l⟩
 ·simp at h
 rcases l with _ |⟨y48,l⟩
 ·simp at h
 rcases l with _ |⟨y49,l⟩
 ·simp at h
 rcases l with _ |⟨y50,l⟩
 ·simp at h
 rcases l with _ |⟨y51,l⟩
 ·simp at h
 rcases l with _ |⟨y52,l⟩
 ·simp at h
 rcases l with _ |⟨y53,l⟩
 ·simp at h
 rcases l with _ |⟨y54,l⟩
 ·simp at h
 rcases l with _ |⟨y55,l⟩
 ·simp at h
 rcases l with _ |⟨y56,l⟩
 ·simp at h
 rcases l with _ |⟨y57,l⟩
 ·simp at h
 rcases l with _ |⟨y58,l⟩
 ·simp at h
 rcases l with _ |⟨y59,l⟩
 ·simp at h
 rcases l with _ |⟨y60,l⟩
 ·simp at h
 rcases l with _ |⟨y,l⟩
 ·exact⟨y0,y1,y2,y3,y4,y5,y6,y7,y8,y9,y10,y11,y12,y13,y14,y15,y16,y17,y18,y19,y20,y21,y22,y23,y24,y25,y26,y27,y28,y29,y30,y31,y32,y33,y34,y35,y36,y37,y38,y39,y40,y41,y42,y43,y44,y45,y46,y47,y48,y49,y50,y51,y52,y53,y54,y55,y56,y57,y58,y59,y60,rfl⟩
 ·simp at h
noncomputable def sR0:Code:=match F0 with|.seq a _=>a|_=>.skip
noncomputable def sR1:Code:=match F0 with|.seq _ (.seq a _)=>a|_=>.skip
noncomputable def sR2:Code:=match sX0 with|.seq a _=>a|_=>.skip
noncomputable def Alo:Code:=match A4q with|.seq _ (.seq _ (.seq _ a))=>a|_=>.skip
noncomputable def A4p:Code:=match sX0 with|.seq _ (.seq _ (.seq _ a))=>a|_=>.skip
noncomputable def sX:Code:=cut [0,13] sX0
theorem Abx:Gi Tryz.prog 45=F0:=by kernel_rfl
theorem Akq:sX=.seq sR2 (.seq (.cond (.tmp 19) .skip (.exit 0)) (.seq (.block 1 (.seq sR3 (.seq sR4 (.seq sIn (.refuse "13"))))) A4p)):=by kernel_rfl
theorem A7g:cut [0,13] F0=.seq (.refuse "0") (.seq sR1 (.block 0 (.loop sX))):=by kernel_rfl
structure SA (ch:Value)(cx cy d n:Nat)(A6:Int)(i:Nat)(a:Act):Prop where
 size:a.tmps.size=61
 t0:a.tmps[0]?=some ch
 t1:a.tmps[1]?=some (.complex .f32 cx cy)
 t2:a.tmps[2]?=some (.int .i64 d)
 t3:a.tmps[3]?=some (.int .i64 n)
 t4:a.tmps[4]?=some (.int .i64 A6)
 t17:a.tmps[17]?=some (.int .i64 n)
 t18:a.tmps[18]?=some (.int .i64 i)
theorem SA.arr {ch:Value}{cx cy d n i:Nat}{A6:Int}{a:Act}(h:SA ch cx cy d n A6 i a):∃y5 y6 y7 y8 y9 y10 y11 y12 y13 y14 y15 y16 y19 y20 y21 y22 y23 y24 y25 y26 y27 y28 y29 y30 y31 y32 y33 y34 y35 y36 y37 y38 y39 y40 y41 y42 y43 y44 y45 y46 y47 y48 y49 y50 y51 y52 y53 y54 y55 y56 y57 y58 y59 y60:Value,a=⟨#[ch,(.complex .f32 cx cy),(.int .i64 d),(.int .i64 n),(.int .i64 A6),y5,y6,y7,y8,y9,y10,y11,y12,y13,y14,y15,y16,(.int .i64 n),(.int .i64 i),y19,y20,y21,y22,y23,y24,y25,y26,y27,y28,y29,y30,y31,y32,y33,y34,y35,y36,y37,y38,y39,y40,y41,y42,y43,y44,y45,y46,y47,y48,y49,y50,y51,y52,y53,y54,y55,y56,y57,y58,y59,y60],a.defers⟩:=by
 obtain⟨t,ds⟩:=a;obtain⟨y0,y1,y2,y3,y4,y5,y6,y7,y8,y9,y10,y11,y12,y13,y14,y15,y16,y17,y18,y19,y20,y21,y22,y23,y24,y25,y26,y27,y28,y29,y30,y31,y32,y33,y34,y35,y36,y37,y38,y39,y40,y41,y42,y43,y44,y45,y46,y47,y48,y49,y50,y51,y52,y53,y54,y55,y56,y57,y58,y59,y60,rfl⟩:=Afr t h.size;obtain⟨_,h0,h1,h2,h3,h4,h17,h18⟩:=h
 cases h0;cases h1;cases h2;cases h3;cases h4;cases h17;cases h18
 exact⟨y5,y6,y7,y8,y9,y10,y11,y12,y13,y14,y15,y16,y19,y20,y21,y22,y23,y24,y25,y26,y27,y28,y29,y30,y31,y32,y33,y34,y35,y36,y37,y38,y39,y40,y41,y42,y43,y44,y45,y46,y47,y48,y49,y50,y51,y52,y53,y54,y55,y56,y57,y58,y59,y60,rfl⟩
def HS (ch:Value)(cx cy d n:Nat)(A6:Int)(st:Nat->Nat->Int)(sm:Nat->Nat->Nat)(ds:List Deferred)(i:Nat)(t:List Item)(a:Act)(w':World):Prop :=
 (i<n/\t=[.code (.refuse "13"), .inBlock 1,.code A4p,.inLoop sX,.inBlock 0]/\∃w:World,Ade ch cx cy d n A6 st sm ds w i a w') \/(i=n/\t=[]/\a.tmps.size=61/\a.defers=ds)
section
variable {cx cy d n : Nat} {A6 : Int} {px py : Nat -> Nat -> Nat} {bx : Nat -> Nat -> Value} {st : Nat -> Nat -> Int} {sm : Nat -> Nat -> Nat} (C : Jl cx cy d n A6 px py bx st sm) (hn : n <= 8) {ch : Value} {i : Nat} {a : Act}
include C hn
theorem A61 (hi:i<=n)(h:SA ch cx cy d n A6 i a)(w:World):HW Vp.prog [.code sX,.inLoop sX,.inBlock 0] (HS ch cx cy d n A6 st sm a.defers i) a w:=by
 obtain⟨y5,y6,y7,y8,y9,y10,y11,y12,y13,y14,y15,y16,y19,y20,y21,y22,y23,y24,y25,y26,y27,y28,y29,y30,y31,y32,y33,y34,y35,y36,y37,y38,y39,y40,y41,y42,y43,y44,y45,y46,y47,y48,y49,y50,y51,y52,y53,y54,y55,y56,y57,y58,y59,y60,ha⟩:=h.arr;obtain⟨t,ds⟩:=a;dsimp only at ha ⊢;rw[ha];clear ha h;rw[show Item.code sX=Item.code (.seq sR2 (.seq (.cond (.tmp 19) .skip (.exit 0)) (.seq (.block 1 (.seq sR3 (.seq sR4 (.seq sIn (.refuse "13"))))) A4p)))from congrArg Item.code Akq]
 refine .seq ?_
 by_cases hlt:i<n
 ·refine HW.Pg (N:=fun a' w'=>w'=w/\a'=⟨#[ch,(.complex .f32 cx cy),(.int .i64 d),(.int .i64 n),(.int .i64 A6),y5,y6,y7,y8,y9,y10,y11,y12,y13,y14,y15,y16,(.int .i64 n),(.int .i64 i),.bool true,y20,y21,y22,y23,y24,y25,y26,y27,y28,y29,y30,y31,y32,y33,y34,y35,y36,y37,y38,y39,y40,y41,y42,y43,y44,y45,y46,y47,y48,y49,y50,y51,y52,y53,y54,y55,y56,y57,y58,y59,y60],ds⟩) ?_ ?_
  ·unfold sR2 sX0 F0 Tryz.f45;dsimp only[Option.getD]
   go_wp2
   exact⟨rfl,rfl⟩
  ·rintro _ _ ⟨rfl,rfl⟩
   refine .seq (.cond (t:=true) rfl (.skip (.seq (.block (.seq ?_)))))
   refine HW.Pg (Ahx C hn i hlt ch ds _ _ _ _ _ _ _ _ _ _ _ _ _ _ _ _ _ _ _ _ _ _ _ _ _ _ _ _ _ _ _ _ _ _ _ _ _ _ _ _ _ _ _ _ _ _ _ _ _ _ _ _ _ _ _) fun a1 w1 h1=>.seq (HW.Pg h1 fun a2 w2 h2=>.seq (HW.Pg h2 fun a3 w3 h3=>.stop (.inl ⟨hlt,rfl,_,h3⟩)))
 ·obtain rfl:i=n:=by omega
  refine HW.Pg (N:=fun a' w'=>w'=w/\a'=⟨#[ch,(.complex .f32 cx cy),(.int .i64 d),(.int .i64 i),(.int .i64 A6),y5,y6,y7,y8,y9,y10,y11,y12,y13,y14,y15,y16,(.int .i64 i),(.int .i64 i),.bool false,y20,y21,y22,y23,y24,y25,y26,y27,y28,y29,y30,y31,y32,y33,y34,y35,y36,y37,y38,y39,y40,y41,y42,y43,y44,y45,y46,y47,y48,y49,y50,y51,y52,y53,y54,y55,y56,y57,y58,y59,y60],ds⟩) ?_ ?_
  ·unfold sR2 sX0 F0 Tryz.f45;dsimp only[Option.getD]
   go_wp2
   exact⟨rfl,rfl⟩
  ·rintro _ _ ⟨rfl,rfl⟩
   exact .seq (.cond (t:=false) rfl (.exit (s':=[]) rfl (.stop (.inr ⟨rfl,rfl,rfl,rfl⟩))))
theorem Ae5 (hi:i<n)(h:SA ch cx cy d n A6 i a)(w:World):HW Vp.prog [.inBlock 1,.code A4p,.inLoop sX,.inBlock 0] (HS ch cx cy d n A6 st sm a.defers (i+1)) a w:=by
 obtain⟨y5,y6,y7,y8,y9,y10,y11,y12,y13,y14,y15,y16,y19,y20,y21,y22,y23,y24,y25,y26,y27,y28,y29,y30,y31,y32,y33,y34,y35,y36,y37,y38,y39,y40,y41,y42,y43,y44,y45,y46,y47,y48,y49,y50,y51,y52,y53,y54,y55,y56,y57,y58,y59,y60,ha⟩:=h.arr;obtain⟨t,ds⟩:=a;dsimp only at ha ⊢;rw[ha];clear ha h
 refine .inBlock (HW.Pg (N:=fun a' w'=>w'=w/\SA ch cx cy d n A6 (i+1) a'/\a'.defers=ds) ?_ ?_)
 ·unfold A4p sX0 F0 Tryz.f45;dsimp only[Option.getD]
  go_wp2
  exact⟨rfl,⟨rfl,rfl,rfl,rfl,rfl,rfl,rfl,by go_num⟩,rfl⟩
 ·rintro a1 _ ⟨rfl,h1,rfl⟩
  exact .inLoop (A61 C hn hi h1 _)
theorem Ab1 (hsz:a.tmps.size=61)(h0:a.tmps[0]?=some ch)(h1:a.tmps[1]?=some (.complex .f32 cx cy))(h2:a.tmps[2]?=some (.int .i64 d))(h3:a.tmps[3]?=some (.int .i64 n))(h4:a.tmps[4]?=some (.int .i64 A6))(w:World) :
 HW Vp.prog [.code (.seq sR1 (.block 0 (.loop sX)))] (HS ch cx cy d n A6 st sm a.defers 0) a w:=by
 obtain⟨t,ds⟩:=a;dsimp only at hsz h0 h1 h2 h3 h4 ⊢;obtain⟨y0,y1,y2,y3,y4,y5,y6,y7,y8,y9,y10,y11,y12,y13,y14,y15,y16,y17,y18,y19,y20,y21,y22,y23,y24,y25,y26,y27,y28,y29,y30,y31,y32,y33,y34,y35,y36,y37,y38,y39,y40,y41,y42,y43,y44,y45,y46,y47,y48,y49,y50,y51,y52,y53,y54,y55,y56,y57,y58,y59,y60,rfl⟩:=Afr t hsz
 cases h0;cases h1;cases h2;cases h3;cases h4
 refine .seq (HW.Pg (N:=fun a' w'=>w'=w/\SA y0 cx cy d n A6 0 a'/\a'.defers=ds) ?_ ?_)
 ·unfold sR1 F0 Tryz.f45;dsimp only[Option.getD]
  go_wp2
  exact⟨rfl,⟨rfl,rfl,rfl,rfl,rfl,rfl,rfl,rfl⟩,rfl⟩
 ·rintro a1 _ ⟨rfl,h1,rfl⟩
  exact .block (.loop (A61 C hn (Amu _) h1 _))
end
end
section
open Go.RowKit Co Ok
attribute [local go_sem ↓] Go.wp_at_zero Go.wp_at_succ
attribute [local go_sem] Av Am
theorem Vq (t:Array Value)(h:t.size=71):∃y0 y1 y2 y3 y4 y5 y6 y7 y8 y9 y10 y11 y12 y13 y14 y15 y16 y17 y18 y19 y20 y21 y22 y23 y24 y25 y26 y27 y28 y29 y30 y31 y32 y33 y34 y35 y36 y37 y38 y39 y40 y41 y42 y43 y44 y45 y46 y47 y48 y49 y50 y51 y52 y53 y54 y55 y56 y57 y58 y59 y60 y61 y62 y63 y64 y65 y66 y67 y68 y69 y70:Value,t=#[y0,y1,y2,y3,y4,y5,y6,y7,y8,y9,y10,y11,y12,y13,y14,y15,y16,y17,y18,y19,y20,y21,y22,y23,y24,y25,y26,y27,y28,y29,y30,y31,y32,y33,y34,y35,y36,y37,y38,y39,y40,y41,y42,y43,y44,y45,y46,y47,y48,y49,y50,y51,y52,y53,y54,y55,y56,y57,y58,y59,y60,y61,y62,y63,y64,y65,y66,y67,y68,y69,y70]:=by
 obtain⟨l⟩:=t;simp only[Aoh]at h
 rcases l with _ |⟨y0,l⟩
 ·simp at h
 rcases l with _ |⟨y1,l⟩
 ·simp at h
 rcases l with _ |⟨y2,l⟩
 ·simp at h
 rcases l with _ |⟨y3,l⟩
 ·simp at h
 rcases l with _ |⟨y4,l⟩
 ·simp at h
 rcases l with _ |⟨y5,l⟩
 ·simp at h
 rcases l with _ |⟨y6,l⟩
 ·simp at h
 rcases l with _ |⟨y7,l⟩
 ·simp at h
 rcases l with _ |⟨y8,l⟩
 ·simp at h
 rcases l with _ |⟨y9,l⟩
 ·simp at h
 rcases l with _ |⟨y10,l⟩
 ·simp at h
 rcases l with _ |⟨y11,l⟩
 ·simp at h
 rcases l with _ |⟨y12,l⟩
 ·simp at h
 rcases l with _ |⟨y13,l⟩
 ·simp at h
 rcases l with _ |⟨y14,l⟩
 ·simp at h
 rcases l with _ |⟨y15,l⟩
 ·simp at h
 rcases l with _ |⟨y16,l⟩
 ·simp at h
 rcases l with _ |⟨y17,l⟩
 ·simp at h
 rcases l with _ |⟨y18,l⟩
 ·simp at h
 rcases l with _ |⟨y19,l⟩
 ·simp at h
 rcases l with _ |⟨y20,l⟩
 ·simp at h
 rcases l with _ |⟨y21,l⟩
 ·simp at h
 rcases l with _ |⟨y22,l⟩
 ·simp at h
 rcases l with _ |⟨y23,l⟩
 ·simp at h
 rcases l with _ |⟨y24,l⟩
 ·simp at h
 rcases l with _ |⟨y25,l⟩
 ·simp at h
 rcases l with _ |⟨y26,l⟩
 ·simp at h
 rcases l with _ |⟨y27,l⟩
 ·simp at h
 rcases l with _ |⟨y28,l⟩
 ·simp at h
 rcases l with _ |⟨y29,l⟩
 ·simp at h
 rcases l with _ |⟨y30,l⟩
 ·simp at h
 rcases l with _ |⟨y31,l⟩
 ·simp at h
 rcases l with _ |⟨y32,l⟩
 ·simp at h
 rcases l with _ |⟨y33,l⟩
 ·simp at h
 rcases l with _ |⟨y34,l⟩
 ·simp at h
 rcases l with _ |⟨y35,l⟩
 ·simp at h
 rcases l with _ |⟨y36,l⟩
 ·simp at h
 rcases l with _ |⟨y37,l⟩
 ·simp at h
 rcases l with _ |⟨y38,l⟩
 ·simp at h
 rcases l with _ |⟨y39,l⟩
 ·simp at h
 rcases l with _ |⟨y40,l⟩
 ·simp at h
 rcases l with _ |⟨y41,l⟩
 ·simp at h
 rcases l with _ |⟨y42,l⟩
 ·simp at h
 rcases l with _ |⟨y43,l⟩
 ·simp at h
 rcases l with _ |⟨y44,l⟩
 ·simp at h
 rcases l with _ |⟨y45,l⟩
 ·simp at h
 rcases l with _ |⟨y46,l⟩
 ·simp at h
 rcases l with _ |⟨y47,l⟩
 ·simp at h
 rcases l with _ |⟨y48,l⟩
 ·simp at h
 rcases l with _ |⟨y49,l⟩
 ·simp at h
 rcases l with _ |⟨y50,l⟩
 ·simp at h
 rcases l with _ |⟨y51,l⟩
 ·simp at h
 rcases l with _ |⟨y52,l⟩
 ·simp at h
 rcases l with _ |⟨y53,l⟩
 ·simp at h
 rcases l with _ |⟨y54,l⟩
 ·simp at h
 rcases l with _ |⟨y55,l⟩
 ·simp at h
 rcases l with _ |⟨y56,l⟩
 ·simp at h
 rcases l with _ |⟨y57,l⟩
 ·simp at h
 rcases l with _ |⟨y58,l⟩
 ·simp at h
 rcases l with _ |⟨y59,l⟩
 ·simp at h
 rcases l with _ |⟨y60,l⟩
 ·simp at h
 rcases l with _ |⟨y61,l⟩
 ·simp at h
 rcases l with _ |⟨y62,l⟩
 ·simp at h
 rcases l with _ |⟨y63,l⟩
 ·simp at h
 rcases l with _ |⟨y64,l⟩
 ·simp at h
 rcases l with _ |⟨y65,l⟩
 ·simp at h
 rcases l with _ |⟨y66,l⟩
 ·simp at h
 rcases l with _ |⟨y67,l⟩
 ·simp at h
 rcases l with _ |⟨y68,l⟩
 ·simp at h
 rcases l with _ |⟨y69,l⟩
 ·simp at h
 rcases l with _ |⟨y70,l⟩
 ·simp at h
 rcases l with _ |⟨y,l⟩
 ·exact⟨y0,y1,y2,y3,y4,y5,y6,y7,y8,y9,y10,y11,y12,y13,y14,y15,y16,y17,y18,y19,y20,y21,y22,y23,y24,y25,y26,y27,y28,y29,y30,y31,y32,y33,y34,y35,y36,y37,y38,y39,y40,y41,y42,y43,y44,y45,y46,y47,y48,y49,y50,y51,y52,y53,y54,y55,y56,y57,y58,y59,y60,y61,y62,y63,y64,y65,y66,y67,y68,y69,y70,rfl⟩
 ·simp at h
noncomputable def Aq:Code:=Tryz.f17.body.getD .skip
noncomputable def mR0:Code:=match Aq with|.seq a _=>a|_=>.skip
noncomputable def mR1:Code:=match Aq with|.seq _ (.seq (.seq a _) _)=>a|_=>.skip
noncomputable def mR2:Code:=match Aq with|.seq _ (.seq (.seq _ (.cond _ (.seq a _) _)) _)=>a|_=>.skip
noncomputable def mB:Code:=match Aq with|.seq _ (.seq _ b)=>b|_=>.skip
noncomputable def mR3:Code:=match mB with|.seq a _=>a|_=>.skip
noncomputable def mR4:Code:=match mB with|.seq _ (.seq (.seq a _) _)=>a|_=>.skip
noncomputable def mR5:Code:=match mB with|.seq _ (.seq (.seq _ (.cond _ (.seq a _) _)) _)=>a|_=>.skip
noncomputable def mD:Code:=match mB with|.seq _ (.seq _ b)=>b|_=>.skip
noncomputable def mR6:Code:=match mD with|.seq a _=>a|_=>.skip
noncomputable def mR7:Code:=match mD with|.seq _ (.seq a _)=>a|_=>.skip
noncomputable def mR8:Code:=match mD with|.seq _ (.seq _ (.seq a _))=>a|_=>.skip
noncomputable def mE:Code:=match mD with|.seq _ (.seq _ (.seq _ (.seq _ (.seq _ b))))=>b|_=>.skip
noncomputable def Ak7:Code:=match mE with|.seq (.seq a _) _=>a|_=>.skip
noncomputable def Pz:Code:=match mE with|.seq (.seq _ (.block _ (.loop y))) _=>y|_=>.skip
noncomputable def A4b:Code:=match mE with|.seq _ (.seq a _)=>a|_=>.skip
noncomputable def Aef:Code:=match Pz with|.seq _ (.seq _ (.block _ (.seq a _)))=>a|_=>.skip
noncomputable def Aeg:Code:=match Pz with|.seq _ (.seq _ (.block _ (.seq _ (.seq a _))))=>a|_=>.skip
noncomputable def Aeh:Code:=match Pz with|.seq _ (.seq _ (.block _ (.seq _ (.seq _ a))))=>a|_=>.skip
noncomputable def mZ:Code:=.seq (.cond (.tmp 56) .skip (.exit 0)) (.block 1 (.seq Aef (.seq Aeg Aeh)))
noncomputable def mY:Code:=.seq (.refuse "12") mZ
noncomputable def mF:Code:=.seq (.seq Ak7 (.block 0 (.loop mY))) (.seq A4b .ret)
theorem Abf:Gi Tryz.prog 17=Aq:=by kernel_rfl
theorem Oi:cut [9,10,12] Aq=.seq mR0 (.seq (.seq mR1 (.cond (.tmp 18) (.seq mR2 .ret) .skip)) (.seq mR3 (.seq (.seq mR4 (.cond (.tmp 32) (.seq mR5 .ret) .skip)) (.seq mR6 (.seq mR7 (.seq mR8 (.seq (.refuse "9") (.seq (.refuse "10") mF)))))))):=by kernel_rfl
structure TX (w:World)(rb ob cx cy d n cap N M gs gm:Nat)(xs:List Nat)(ys:List Int)(W:World):Prop where
 O:A7 w ob (C8 cx cy d n (.slice (some ⟨gs,0,none⟩) N cap) (.slice (some ⟨gm,0,none⟩) M cap)) 43 W
 R:A7 w rb (C8 0 0 0 0 (.slice none 0 0) (.slice none 0 0)) 43 W
 S:W.ownsRow w.heap.size 87 1 (.slice (some ⟨gs,0,none⟩) N cap) N (xs.map Db)
 M:W.ownsRow w.heap.size 3 1 (.slice (some ⟨gm,0,none⟩) M cap) M (ys.map By)
 ne:rb≠ob
 hr:w.heap.size<=rb
 ho:w.heap.size<=ob
section
variable {w W W' : World} {rb ob cx cy d n cap N M gs gm : Nat} {xs : List Nat} {ys : List Int}
theorem TX.step (h:TX w rb ob cx cy d n cap N M gs gm xs ys W)(k:Below W.heap.size W W'):TX w rb ob cx cy d n cap N M gs gm xs ys W':=⟨h.O.step k,h.R.step k,C4 h.S k,C4 h.M k,h.ne,h.hr,h.ho⟩
theorem TX.alloc (h:TX w rb ob cx cy d n cap N M gs gm xs ys W)(o:Obj):TX w rb ob cx cy d n cap N M gs gm xs ys (W.alloc o):=h.step ((Amc _ _).alloc (Am0 _) o)
theorem TX.old (h:TX w rb ob cx cy d n cap N M gs gm xs ys W):Below w.heap.size w W:=h.O.old
theorem TX.oc (h:TX w rb ob cx cy d n cap N M gs gm xs ys W) :
 W.cell? ⟨ob,0,none⟩=some (.complex .f32 cx cy)/\W.cell? ⟨ob,1,none⟩=some (.int .i64 d)/\W.cell? ⟨ob,2,none⟩=some (.int .i64 n)/\W.cell? ⟨ob,3,none⟩=some (.slice (some ⟨gs,0,none⟩) N cap)/\W.cell? ⟨ob,4,none⟩=some (.slice (some ⟨gm,0,none⟩) M cap):=h.O.Og
theorem TX.rc (h:TX w rb ob cx cy d n cap N M gs gm xs ys W) :
 W.cell? ⟨rb,0,none⟩=some (.complex .f32 0 0)/\W.cell? ⟨rb,1,none⟩=some (.int .i64 0)/\W.cell? ⟨rb,2,none⟩=some (.int .i64 0)/\W.cell? ⟨rb,3,none⟩=some (.slice none 0 0)/\W.cell? ⟨rb,4,none⟩=some (.slice none 0 0):=h.R.Og
theorem TX.It (h:TX w rb ob cx cy d n cap N M gs gm xs ys W){m:Nat}{zs:List Nat}(hown:W'.ownsRow w.heap.size 87 1 (.slice (some ⟨gs,0,none⟩) (N+m) cap) (N+m) (xs.map Db++zs.map Db))(hg:W.grownBy W' (some gs)) :
 TX w rb ob cx cy d n cap (N+m) M gs gm (xs++zs) ys (W'.setCell ⟨ob,3,none⟩ (.slice (some ⟨gs,0,none⟩) (N+m) cap))/\W'.cell? ⟨ob,3,none⟩=some (.slice (some ⟨gs,0,none⟩) N cap)/\W'.frozen? ⟨ob,3,none⟩=false:=by
 have hrow:∀k,some gs=some k->w.heap.size<=k:=fun k hk=>(h.S.lt k hk).1
 have O:=h.O.grown hg (Bg h.S h.O.blk (by decide)) hrow
 have R:=h.R.grown hg (Bg h.S h.R.blk (by decide)) hrow
 have M:=h.M.kept hg (Df h.M h.S (by decide))
 refine⟨⟨?_,R.other (p:=⟨ob,3,none⟩) h.ho h.ne _,?_,Aa M O.blk (by decide) _,h.ne,h.hr,h.ho⟩,O.cell 3 _ rfl,O.frozen 3⟩
 ·have:=O.set h.ho 3 (.slice (some ⟨gs,0,none⟩) (N+m) cap)
  exact this
 ·rw[Aok]
  exact Aa hown O.blk (by decide) _
theorem TX.mark (h:TX w rb ob cx cy d n cap N M gs gm xs ys W){m:Nat}{zs:List Int}(hown:W'.ownsRow w.heap.size 3 1 (.slice (some ⟨gm,0,none⟩) (M+m) cap) (M+m) (ys.map By++zs.map By))(hg:W.grownBy W' (some gm)) :
 TX w rb ob cx cy d n cap N (M+m) gs gm xs (ys++zs) (W'.setCell ⟨ob,4,none⟩ (.slice (some ⟨gm,0,none⟩) (M+m) cap))/\W'.cell? ⟨ob,4,none⟩=some (.slice (some ⟨gm,0,none⟩) M cap)/\W'.frozen? ⟨ob,4,none⟩=false:=by
 have hrow:∀k,some gm=some k->w.heap.size<=k:=fun k hk=>(h.M.lt k hk).1
 have O:=h.O.grown hg (Bg h.M h.O.blk (by decide)) hrow
 have R:=h.R.grown hg (Bg h.M h.R.blk (by decide)) hrow
 have S:=h.S.kept hg (Df h.S h.M (by decide))
 refine⟨⟨?_,R.other (p:=⟨ob,4,none⟩) h.ho h.ne _,Aa S O.blk (by decide) _,?_,h.ne,h.hr,h.ho⟩,O.cell 4 _ rfl,O.frozen 4⟩
 ·have:=O.set h.ho 4 (.slice (some ⟨gm,0,none⟩) (M+m) cap)
  exact this
 ·rw[Aok]
  exact Aa hown O.blk (by decide) _
end
structure MA (rb ob:Nat)(ch:Value)(a:Act):Prop where
 size:a.tmps.size=71
 t8:a.tmps[8]?=some (.pointer (some ⟨rb,0,none⟩))
 t11:a.tmps[11]?=some (.pointer (some ⟨ob,0,none⟩))
 t12:a.tmps[12]?=some ch
 t54:a.tmps[54]?=some ch
 ds:a.defers=[]
def Qk (cx cy d n:Nat)(Ey:Bool)(xs:List Nat)(ys:List Int)(w:World)(t:List Item)(a:Act)(W:World):Prop :=
 ∃rb rest,t=.code .ret :: rest/\a.defers=[]/\a.tmps[8]?=some (.pointer (some ⟨rb,0,none⟩))/\a.tmps[9]?=some (.bool Ey)/\w.heap.size<=rb /\
  if Ey then ∃gs gm,A7 w rb (C8 cx cy d n (.slice (some ⟨gs,0,none⟩) (n*n) (n*n)) (.slice (some ⟨gm,0,none⟩) (n*n) (n*n))) 43 W/\W.ownsRow w.heap.size 87 1 (.slice (some ⟨gs,0,none⟩) (n*n) (n*n)) (n*n) (xs.map Db)/\W.ownsRow w.heap.size 3 1 (.slice (some ⟨gm,0,none⟩) (n*n) (n*n)) (n*n) (ys.map By)
  else A7 w rb (C8 0 0 0 0 (.slice none 0 0) (.slice none 0 0)) 43 W
def Zm (cx cy d n:Nat)(A6:Int)(w:World)(t:List Item)(a:Act)(W:World):Prop :=
 ∃rb ob gs gm,t=[.code (.refuse "9"), .code (.seq (.refuse "10") mF)]/\a.tmps.size=71/\a.defers=[]/\a.tmps[0]?=some (.complex .f32 cx cy)/\a.tmps[1]?=some (.int .i64 d)/\a.tmps[2]?=some (.int .i64 n)/\a.tmps[3]?=some (.int .i64 A6) /\
  a.tmps[8]?=some (.pointer (some ⟨rb,0,none⟩))/\a.tmps[11]?=some (.pointer (some ⟨ob,0,none⟩))/\TX w rb ob cx cy d n (n*n) 0 0 gs gm [] [] W
theorem Uk (w:World):A7 w w.heap.size (C8 0 0 0 0 (.slice none 0 0) (.slice none 0 0)) 43 (w.alloc (.cells (C8 0 0 0 0 (.slice none 0 0) (.slice none 0 0)) 43)):=A7.new w _ _
theorem Akk (h:Array Obj)(a b c e:Obj):((((h.push a).push b).push c).push e)[h.size]?=some a /\((((h.push a).push b).push c).push e)[h.size+1]?=some b /\((((h.push a).push b).push c).push e)[h.size+1+1]?=some c /\((((h.push a).push b).push c).push e)[h.size+1+1+1]?=some e:=by
 refine⟨?_,?_,?_,?_⟩
 ·rw[Ama,Amd (by simp only[Apy];omega)];exact(Wv _ _ _ _).1
 ·rw[Ama,Amd (by simp only[Apy];omega)];exact(Wv _ _ _ _).2.1
 ·rw[Ama,Amd (by simp)];exact(Wv _ _ _ _).2.2
 ·rw[Ama,Amo (by simp)]
theorem TX.start (w:World)(cx cy d n:Nat){cF cI:Array Value}(hF:cF.size=n*n*1)(hI:cI.size=n*n*1)(hm:n*n<=maxLen) :
 TX w w.heap.size (w.heap.size+1) cx cy d n (n*n) 0 0 (w.heap.size+1+1) (w.heap.size+1+1+1) [] [] ((((w.alloc (.cells (C8 0 0 0 0 (.slice none 0 0) (.slice none 0 0)) 43)).alloc (.cells (C8 cx cy d n (.slice (some ⟨w.heap.size+1+1,0,none⟩) 0 (n*n)) (.slice (some ⟨w.heap.size+1+1+1,0,none⟩) 0 (n*n))) 43)).alloc (.cells cF 87)).alloc (.cells cI 3)):=by
 have hb:Below w.heap.size w ((((w.alloc (.cells (C8 0 0 0 0 (.slice none 0 0) (.slice none 0 0)) 43)).alloc (.cells (C8 cx cy d n (.slice (some ⟨w.heap.size+1+1,0,none⟩) 0 (n*n)) (.slice (some ⟨w.heap.size+1+1+1,0,none⟩) 0 (n*n))) 43)).alloc (.cells cF 87)).alloc (.cells cI 3)) :=
  ((((Amc _ _).alloc (Am0 _) _).alloc (by simp) _).alloc (by simp;omega) _).alloc (by simp;omega) _
 have hp:=Akk w.heap (.cells (C8 0 0 0 0 (.slice none 0 0) (.slice none 0 0)) 43) (.cells (C8 cx cy d n (.slice (some ⟨w.heap.size+1+1,0,none⟩) 0 (n*n)) (.slice (some ⟨w.heap.size+1+1+1,0,none⟩) 0 (n*n))) 43) (.cells cF 87) (.cells cI 3)
 refine⟨⟨hp.2.1,hb⟩,⟨hp.1,hb⟩,⟨by simp,.inr ⟨_,_,cF,rfl,by omega,hp.2.2.1,Amu _,hm,hF,by simp⟩⟩,⟨by simp,.inr ⟨_,_,cI,rfl,by omega,hp.2.2.2,Amu _,hm,hI,by simp⟩⟩,by omega,by omega,by omega⟩
section
variable {cx cy d n : Nat} {A6 : Int}
theorem A3z {deep size:Int}(h:∀W,Calls Vp.prog 43 #[.complex .f32 cx cy,.int .i64 deep,.int .i64 size] W fun e w'=>e=.returned (.bool false)/\W=w')(y4 y5 y6 y7 y8 y9 y10 y11 y12 y13 y14 y15 y16 y17 y18 y19 y20 y21 y22 y23 y24 y25 y26 y27 y28 y29 y30 y31 y32 y33 y34 y35 y36 y37 y38 y39 y40 y41 y42 y43 y44 y45 y46 y47 y48 y49 y50 y51 y52 y53 y54 y55 y56 y57 y58 y59 y60 y61 y62 y63 y64 y65 y66 y67 y68 y69 y70:Value)(w:World)(xs:List Nat)(ys:List Int) :
 HW Vp.prog [.code (cut [9,10,12] Aq)] (Qk cx cy d n false xs ys w) ⟨#[(.complex .f32 cx cy),(.int .i64 deep),(.int .i64 size),(.int .i64 A6),y4,y5,y6,y7,y8,y9,y10,y11,y12,y13,y14,y15,y16,y17,y18,y19,y20,y21,y22,y23,y24,y25,y26,y27,y28,y29,y30,y31,y32,y33,y34,y35,y36,y37,y38,y39,y40,y41,y42,y43,y44,y45,y46,y47,y48,y49,y50,y51,y52,y53,y54,y55,y56,y57,y58,y59,y60,y61,y62,y63,y64,y65,y66,y67,y68,y69,y70],[]⟩ w:=by
 rw[Oi]
 refine .seq (.Cq ?_)
 unfold mR0;(try unfold Pz);(try unfold mE);(try unfold mD);(try unfold mB);unfold Aq Tryz.f17;dsimp only[Option.getD]
 go_wp2
 show HW _ _ _ _ _
 refine .seq (.seq (.Cq ?_))
 unfold mR1;(try unfold Pz);(try unfold mE);(try unfold mD);(try unfold mB);unfold Aq Tryz.f17;dsimp only[Option.getD]
 go_wp2_with (go_at_call 43;refine(h _).mono ?_;rintro e w1 ⟨rfl,rfl⟩)
 show HW _ _ _ _ _
 refine .cond (t:=true) rfl (.seq (.Cq ?_))
 unfold mR2;(try unfold Pz);(try unfold mE);(try unfold mD);(try unfold mB);unfold Aq Tryz.f17;dsimp only[Option.getD]
 go_wp2
 exact .stop ⟨w.heap.size,_,rfl,rfl,rfl,rfl,Am0 _,by rw[Amd (by simp)];exact Uk w⟩
theorem Agx {ex ey:Nat}(h:∀W,Calls Vp.prog 43 #[.complex .f32 cx cy,.int .i64 d,.int .i64 n] W fun e w'=>e=.returned (.bool true)/\W=w')(hp:∀W,Calls Vp.prog 44 #[.complex .f32 cx cy,.int .i64 d,.int .i64 n,.int .i64 n] W fun e w'=>e=.returned (.complex .f32 ex ey)/\W=w')
 (hf:(FloatKind.f32.format.order ex 1090519040 == some .gt || FloatKind.f32.format.order ey 1090519040 == some .gt)=true) (y4 y5 y6 y7 y8 y9 y10 y11 y12 y13 y14 y15 y16 y17 y18 y19 y20 y21 y22 y23 y24 y25 y26 y27 y28 y29 y30 y31 y32 y33 y34 y35 y36 y37 y38 y39 y40 y41 y42 y43 y44 y45 y46 y47 y48 y49 y50 y51 y52 y53 y54 y55 y56 y57 y58 y59 y60 y61 y62 y63 y64 y65 y66 y67 y68 y69 y70:Value) (w:World) (xs:List Nat) (ys:List Int) :
 HW Vp.prog [.code (cut [9,10,12] Aq)] (Qk cx cy d n false xs ys w) ⟨#[(.complex .f32 cx cy),(.int .i64 d),(.int .i64 n),(.int .i64 A6),y4,y5,y6,y7,y8,y9,y10,y11,y12,y13,y14,y15,y16,y17,y18,y19,y20,y21,y22,y23,y24,y25,y26,y27,y28,y29,y30,y31,y32,y33,y34,y35,y36,y37,y38,y39,y40,y41,y42,y43,y44,y45,y46,y47,y48,y49,y50,y51,y52,y53,y54,y55,y56,y57,y58,y59,y60,y61,y62,y63,y64,y65,y66,y67,y68,y69,y70],[]⟩ w:=by
 rw[Oi]
 refine .seq (.Cq ?_)
 unfold mR0;(try unfold Pz);(try unfold mE);(try unfold mD);(try unfold mB);unfold Aq Tryz.f17;dsimp only[Option.getD]
 go_wp2
 show HW _ _ _ _ _
 refine .seq (.seq (.Cq ?_))
 unfold mR1;(try unfold Pz);(try unfold mE);(try unfold mD);(try unfold mB);unfold Aq Tryz.f17;dsimp only[Option.getD]
 go_wp2_with (go_at_call 43;refine(h _).mono ?_;rintro e w1 ⟨rfl,rfl⟩)
 show HW _ _ _ _ _
 refine .cond (t:=false) rfl (.skip (.seq (.Cq ?_)))
 unfold mR3;(try unfold Pz);(try unfold mE);(try unfold mD);(try unfold mB);unfold Aq Tryz.f17;dsimp only[Option.getD]
 go_wp2_with (go_at_call 44;refine(hp _).mono ?_;rintro e w1 ⟨rfl,rfl⟩)
 show HW _ _ _ _ _
 refine .seq (.seq (.Cq ?_))
 cases h1:(FloatKind.f32.format.order ex 1090519040 == some .gt)with
 | true =>
   unfold mR4;(try unfold Pz);(try unfold mE);(try unfold mD);(try unfold mB);unfold Aq Tryz.f17;dsimp only[Option.getD]
   go_wp2
   show HW _ _ _ _ _
   refine .cond (t:=true) rfl (.seq (.Cq ?_))
   unfold mR5;(try unfold Pz);(try unfold mE);(try unfold mD);(try unfold mB);unfold Aq Tryz.f17;dsimp only[Option.getD]
   go_wp2
   exact .stop ⟨w.heap.size,_,rfl,rfl,rfl,rfl,Am0 _,by rw[Amd (by simp)];exact Uk w⟩
 | false =>
   rw[h1,Bool.false_or]at hf;unfold mR4;(try unfold Pz);(try unfold mE);(try unfold mD);(try unfold mB);unfold Aq Tryz.f17;dsimp only[Option.getD]
   go_wp2
   show HW _ _ _ _ _
   refine .cond (t:=true) rfl (.seq (.Cq ?_))
   unfold mR5;(try unfold Pz);(try unfold mE);(try unfold mD);(try unfold mB);unfold Aq Tryz.f17;dsimp only[Option.getD]
   go_wp2
   exact .stop ⟨w.heap.size,_,rfl,rfl,rfl,rfl,Am0 _,by rw[Amd (by simp)];exact Uk w⟩
theorem Ae3 {ex ey:Nat}(hn:n<=8)(h:∀W,Calls Vp.prog 43 #[.complex .f32 cx cy,.int .i64 d,.int .i64 n] W fun e w'=>e=.returned (.bool true)/\W=w')(hp:∀W,Calls Vp.prog 44 #[.complex .f32 cx cy,.int .i64 d,.int .i64 n,.int .i64 n] W fun e w'=>e=.returned (.complex .f32 ex ey)/\W=w')
 (hf1:(FloatKind.f32.format.order ex 1090519040 == some .gt)=false) (hf2:(FloatKind.f32.format.order ey 1090519040 == some .gt)=false) (y4 y5 y6 y7 y8 y9 y10 y11 y12 y13 y14 y15 y16 y17 y18 y19 y20 y21 y22 y23 y24 y25 y26 y27 y28 y29 y30 y31 y32 y33 y34 y35 y36 y37 y38 y39 y40 y41 y42 y43 y44 y45 y46 y47 y48 y49 y50 y51 y52 y53 y54 y55 y56 y57 y58 y59 y60 y61 y62 y63 y64 y65 y66 y67 y68 y69 y70:Value) (w:World) :
 HW Vp.prog [.code (cut [9,10,12] Aq)] (Zm cx cy d n A6 w) ⟨#[(.complex .f32 cx cy),(.int .i64 d),(.int .i64 n),(.int .i64 A6),y4,y5,y6,y7,y8,y9,y10,y11,y12,y13,y14,y15,y16,y17,y18,y19,y20,y21,y22,y23,y24,y25,y26,y27,y28,y29,y30,y31,y32,y33,y34,y35,y36,y37,y38,y39,y40,y41,y42,y43,y44,y45,y46,y47,y48,y49,y50,y51,y52,y53,y54,y55,y56,y57,y58,y59,y60,y61,y62,y63,y64,y65,y66,y67,y68,y69,y70],[]⟩ w:=by
 obtain⟨iF,hiF,hzF0,hzF1,hzF2⟩:=Ap2 A17;obtain⟨iI,hiI,hzI0,hzI1,hzI2⟩:=Ap2 Wf;have hnn:n*n<=64:=Ap4 hn hn;obtain⟨N,hN⟩:∃N,n*n=N:=⟨_,rfl⟩;rw[hN]at hnn;have hN2:((N:Nat):Int)=(n:Int)*n:=by rw[<-An2,hN]
 obtain⟨cF,hcF,hF⟩:=Dq (P:=Vp.prog) 40 87 iF _ (Vp.Bl Tryz.underlying40) hiF hzF0 N (by omega) (by omega)
 obtain⟨cI,hcI,hI⟩:=Dq (P:=Vp.prog) 41 3 iI _ (Vp.Bl Tryz.underlying41) hiI hzI0 N (by omega) (by omega)
 rw[hzF1]at hcF;rw[hzI1]at hcI;rw[hN2]at hF hI;clear hiF hzF0 hzF1 hzF2 hiI hzI0 hzI1 hzI2 hN2;rw[Oi]
 refine .seq (.Cq ?_)
 unfold mR0;(try unfold Pz);(try unfold mE);(try unfold mD);(try unfold mB);unfold Aq Tryz.f17;dsimp only[Option.getD]
 go_wp2
 show HW _ _ _ _ _
 refine .seq (.seq (.Cq ?_))
 unfold mR1;(try unfold Pz);(try unfold mE);(try unfold mD);(try unfold mB);unfold Aq Tryz.f17;dsimp only[Option.getD]
 go_wp2_with (go_at_call 43;refine(h _).mono ?_;rintro e w1 ⟨rfl,rfl⟩)
 show HW _ _ _ _ _
 refine .cond (t:=false) rfl (.skip (.seq (.Cq ?_)))
 unfold mR3;(try unfold Pz);(try unfold mE);(try unfold mD);(try unfold mB);unfold Aq Tryz.f17;dsimp only[Option.getD]
 go_wp2_with (go_at_call 44;refine(hp _).mono ?_;rintro e w1 ⟨rfl,rfl⟩)
 show HW _ _ _ _ _
 refine .seq (.seq (.Cq ?_))
 unfold mR4;(try unfold Pz);(try unfold mE);(try unfold mD);(try unfold mB);unfold Aq Tryz.f17;dsimp only[Option.getD]
 go_wp2
 show HW _ _ _ _ _
 refine .cond (t:=false) rfl (.skip (.seq (.Cq ?_)))
 unfold mR6;(try unfold Pz);(try unfold mE);(try unfold mD);(try unfold mB);unfold Aq Tryz.f17;dsimp only[Option.getD]
 go_wp2
 show HW _ _ _ _ _
 refine .seq (.Cq ?_)
 unfold mR7;(try unfold Pz);(try unfold mE);(try unfold mD);(try unfold mB);unfold Aq Tryz.f17;dsimp only[Option.getD]
 go_wp2
 show HW _ _ _ _ _
 refine .seq (.Cq ?_)
 unfold mR8;(try unfold Pz);(try unfold mE);(try unfold mD);(try unfold mB);unfold Aq Tryz.f17;dsimp only[Option.getD]
 go_wp2
 show HW _ _ _ _ _
 clear hF hI;subst hN
 exact .seq (.stop ⟨w.heap.size,w.heap.size+1,w.heap.size+1+1,w.heap.size+1+1+1,rfl,rfl,rfl,rfl,rfl,rfl,rfl,rfl,rfl,TX.start w cx cy d n hcF hcI (by unfold maxLen;omega)⟩)
def H12 (cx cy d n rb ob:Nat)(ch:Value)(gs gm N:Nat)(xs:List Nat)(ys:List Int)(w:World)(t:List Item)(a:Act)(W:World):Prop :=
 t=[.code (.refuse "12"), .code mZ,.inLoop mY,.inBlock 0,.code (.seq A4b .ret)]/\MA rb ob ch a/\TX w rb ob cx cy d n (n*n) N N gs gm xs ys W
theorem Aax {rb ob gs gm N:Nat}{ch:Value}{xs:List Nat}{ys:List Int}{a:Act}{w W:World}(hs:a.tmps.size=71)(h8:a.tmps[8]?=some (.pointer (some ⟨rb,0,none⟩)))(h11:a.tmps[11]?=some (.pointer (some ⟨ob,0,none⟩)))(h12:a.tmps[12]?=some ch)(hd:a.defers=[])
 (T:TX w rb ob cx cy d n (n*n) N N gs gm xs ys W):HW Vp.prog [.code mF] (H12 cx cy d n rb ob ch gs gm N xs ys w) a W:=by
 obtain⟨t,ds⟩:=a;dsimp only at hs h8 h11 h12 hd;obtain⟨y0,y1,y2,y3,y4,y5,y6,y7,y8,y9,y10,y11,y12,y13,y14,y15,y16,y17,y18,y19,y20,y21,y22,y23,y24,y25,y26,y27,y28,y29,y30,y31,y32,y33,y34,y35,y36,y37,y38,y39,y40,y41,y42,y43,y44,y45,y46,y47,y48,y49,y50,y51,y52,y53,y54,y55,y56,y57,y58,y59,y60,y61,y62,y63,y64,y65,y66,y67,y68,y69,y70,rfl⟩:=Vq t hs
 cases h8;cases h11;cases h12;subst hd
 unfold mF
 refine .seq (.seq (.Cq ?_))
 unfold Ak7;(try unfold Pz);(try unfold mE);(try unfold mD);(try unfold mB);unfold Aq Tryz.f17;dsimp only[Option.getD]
 go_wp2
 show HW _ _ _ _ _
 refine .block (.loop ?_)
 have hY:Item.code mY=Item.code (.seq (.refuse "12") mZ):=rfl;rw[hY]
 exact .seq (.stop ⟨rfl,⟨rfl,rfl,rfl,rfl,rfl,rfl⟩,T⟩)
theorem Ae4 {rb ob gs gm N sb mb:Nat}{ch:Value}{xs zs:List Nat}{ys us:List Int}{a:Act}{w W:World}(hn:n<=8)(hN:N+n<=n*n)(h:MA rb ob ch a)(h55:a.tmps[55]?=some (.tuple #[.agg #[.slice (some ⟨sb,0,none⟩) n n,.slice (some ⟨mb,0,none⟩) n n],.bool true]))(h56:a.tmps[56]?=some (.bool true))
 (T:TX w rb ob cx cy d n (n*n) N N gs gm xs ys W) (hz:zs.length=n) (hu:us.length=n) {fz fu:Nat×Nat} (hsb:W.heap[sb]?=some (.cells (zs.map Db).toArray 87 fz)) (hmb:W.heap[mb]?=some (.cells (us.map By).toArray 3 fu)) (hso:sb≠gs/\sb≠ob) (hmo:mb≠gs/\mb≠gm/\mb≠ob) :
 HW Vp.prog [.code mZ,.inLoop mY,.inBlock 0,.code (.seq A4b .ret)] (H12 cx cy d n rb ob ch gs gm (N+n) (xs++zs) (ys++us) w) a W:=by
 obtain⟨iF,hiF,hzF0,hzF1,hzF2⟩:=Ap2 A17;obtain⟨iI,hiI,hzI0,hzI1,hzI2⟩:=Ap2 Wf;obtain⟨t,ds⟩:=a;obtain⟨hs,h8,h11,h12,h54,hd⟩:=h;dsimp only at hs h8 h11 h12 h54 hd h55 h56;obtain⟨y0,y1,y2,y3,y4,y5,y6,y7,y8,y9,y10,y11,y12,y13,y14,y15,y16,y17,y18,y19,y20,y21,y22,y23,y24,y25,y26,y27,y28,y29,y30,y31,y32,y33,y34,y35,y36,y37,y38,y39,y40,y41,y42,y43,y44,y45,y46,y47,y48,y49,y50,y51,y52,y53,y54,y55,y56,y57,y58,y59,y60,y61,y62,y63,y64,y65,y66,y67,y68,y69,y70,rfl⟩:=Vq t hs
 cases h8;cases h11;cases h12;cases h54;cases h55;cases h56;subst hd
 have hsz:=(Alx.1 hsb).1;have hmz:=(Alx.1 hmb).1;have HT1:=Aly (T.alloc (.cells #[.slice (some ⟨sb,0,none⟩) n n,.slice (some ⟨mb,0,none⟩) n n] 91));have HB1:=Aly ((A7.new W #[.slice (some ⟨sb,0,none⟩) n n,.slice (some ⟨mb,0,none⟩) n n] 91).up (w0:=w) T.old);have hs1:(W.alloc (.cells #[.slice (some ⟨sb,0,none⟩) n n,.slice (some ⟨mb,0,none⟩) n n] 91)).heap[sb]?=some (.cells (zs.map Db).toArray 87 fz):=by rw[Y3,Ama,Amd (by omega)];exact hsb
 have hm1:(W.alloc (.cells #[.slice (some ⟨sb,0,none⟩) n n,.slice (some ⟨mb,0,none⟩) n n] 91)).heap[mb]?=some (.cells (us.map By).toArray 3 fu):=by rw[Y3,Ama,Amd (by omega)];exact hmb
 have hrk:w.heap.size<=W.heap.size:=T.old.size;have hko:ob≠W.heap.size:=by have:=T.O.lt;omega
 clear T hsb hmb;have hZ:Item.code mZ=Item.code (.seq (.cond (.tmp 56) .skip (.exit 0)) (.block 1 (.seq Aef (.seq Aeg Aeh)))):=rfl;rw[hZ]
 refine .seq (.cond (t:=true) rfl (.skip (.block (.seq (.Cq ?_)))))
 unfold Aef;(try unfold Pz);(try unfold mE);(try unfold mD);(try unfold mB);unfold Aq Tryz.f17;dsimp only[Option.getD]
 go_wp2
 show HW _ _ _ _ _
 refine .seq (.Cq ?_)
 generalize W.alloc (.cells #[.slice (some ⟨sb,0,none⟩) n n,.slice (some ⟨mb,0,none⟩) n n] 91)=W1 at *;generalize W.heap.size=rk at *;obtain⟨-,-,-,k3,-⟩:=HT1.out.oc;have r0:=HB1.out.cell 0 _ rfl;unfold Aeg;(try unfold Pz);(try unfold mE);(try unfold mD);(try unfold mB);unfold Aq Tryz.f17;dsimp only[Option.getD]
 go_wp2_with (at_builtin;refine wpList_append_own_spare _ rfl _ _ _ rfl w.heap.size 87 iF 1 (Vp.Bl Tryz.underlying40) hiF hzF1 gs N (n*n) (xs.map Db) rfl HT1.out.S ⟨sb,0,none⟩ n n (zs.map Db) rfl (by simp[hz]) (World.news_of_block (cs:=(zs.map Db).toArray) (t:=87) (fr:=fz) hs1) (by intro u hu;obtain⟨x,_,rfl⟩:=Anp.1 hu;rfl) hN ?_;intro w6 hown hgrow;obtain⟨T6,k6,f6⟩:=HT1.out.It hown hgrow;have HT6:=Aly T6;have HG:=Aly hgrow;clear T6 hown hgrow)
 show HW _ _ _ _ _
 refine .Cq ?_
 have hrow:∀k,some gs=some k->w.heap.size<=k:=fun k hk=>(HT1.out.S.lt k hk).1
 have HB6:=Aly (((HB1.out.grown HG.out (Bg HT1.out.S HB1.out.blk (by decide)) hrow).other (p:=⟨ob,3,none⟩) HT1.out.ho (Aoi hko) (.slice (some ⟨gs,0,none⟩) (N+n) (n*n))))
 have hm6:(w6.setCell ⟨ob,3,none⟩ (.slice (some ⟨gs,0,none⟩) (N+n) (n*n))).heap[mb]?=some (.cells (us.map By).toArray 3 fu):=by
  rw[An8 _ _ _ _ hmo.2.2,HG.out.block mb (Alx.1 hm1).1 (fun e=>hmo.1 (Aml e))]
  exact hm1
 clear HB1 HG hs1 hm1 HT1 k3 r0 k6 f6;generalize w6.setCell ⟨ob,3,none⟩ (.slice (some ⟨gs,0,none⟩) (N+n) (n*n))=W7 at *;obtain⟨-,-,-,-,k4⟩:=HT6.out.oc;have r1:=HB6.out.cell 1 _ rfl;unfold Aeh;(try unfold Pz);(try unfold mE);(try unfold mD);(try unfold mB);unfold Aq Tryz.f17;dsimp only[Option.getD]
 go_wp2_with (at_builtin;refine wpList_append_own_spare _ rfl _ _ _ rfl w.heap.size 3 iI 1 (Vp.Bl Tryz.underlying41) hiI hzI1 gm N (n*n) (ys.map By) rfl HT6.out.M ⟨mb,0,none⟩ n n (us.map By) rfl (by simp[hu]) (World.news_of_block (cs:=(us.map By).toArray) (t:=3) (fr:=fu) hm6) (by intro u hu;obtain⟨x,_,rfl⟩:=Anp.1 hu;rfl) hN ?_;intro w8 hown hgrow;obtain⟨T8,k8,f8⟩:=HT6.out.mark hown hgrow;have HT8:=Aly T8;clear T8 hown hgrow)
 show HW _ _ _ _ _
 refine .inBlock (.inLoop ?_)
 have hY:Item.code mY=Item.code (.seq (.refuse "12") mZ):=rfl;rw[hY]
 exact .seq (.stop ⟨rfl,⟨rfl,rfl,rfl,rfl,rfl,rfl⟩,HT8.out⟩)
theorem Ae2 {rb ob gs gm:Nat}{ch v0:Value}{xs:List Nat}{ys:List Int}{a:Act}{w W:World}(h:MA rb ob ch a)(h55:a.tmps[55]?=some v0)(h56:a.tmps[56]?=some (.bool false))
 (T:TX w rb ob cx cy d n (n*n) (n*n) (n*n) gs gm xs ys W) :
 HW Vp.prog [.code mZ,.inLoop mY,.inBlock 0,.code (.seq A4b .ret)] (Qk cx cy d n true xs ys w) a W:=by
 obtain⟨t,ds⟩:=a;obtain⟨hs,h8,h11,h12,h54,hd⟩:=h;dsimp only at hs h8 h11 h12 h54 hd h55 h56;obtain⟨y0,y1,y2,y3,y4,y5,y6,y7,y8,y9,y10,y11,y12,y13,y14,y15,y16,y17,y18,y19,y20,y21,y22,y23,y24,y25,y26,y27,y28,y29,y30,y31,y32,y33,y34,y35,y36,y37,y38,y39,y40,y41,y42,y43,y44,y45,y46,y47,y48,y49,y50,y51,y52,y53,y54,y55,y56,y57,y58,y59,y60,y61,y62,y63,y64,y65,y66,y67,y68,y69,y70,rfl⟩:=Vq t hs
 cases h8;cases h11;cases h12;cases h54;cases h55;cases h56;subst hd
 have HT:=Aly T;obtain⟨o0,o1,o2,o3,o4⟩:=T.oc;obtain⟨c0,c1,c2,c3,c4⟩:=T.rc;obtain⟨f0,f1,f2,f3,f4⟩:=T.R.Aav;have hne:=T.ne;have hr:=T.hr;clear T;have hZ:Item.code mZ=Item.code (.seq (.cond (.tmp 56) .skip (.exit 0)) (.block 1 (.seq Aef (.seq Aeg Aeh)))):=rfl;rw[hZ]
 refine .seq (.cond (t:=false) rfl (.exit (s':=[.code (.seq A4b .ret)]) rfl (.seq (.Cq ?_))))
 unfold A4b;(try unfold Pz);(try unfold mE);(try unfold mD);(try unfold mB);unfold Aq Tryz.f17;dsimp only[Option.getD]
 go_wp2
 show HW _ _ _ _ _
 refine .stop ⟨rb,_,rfl,rfl,rfl,rfl,hr,?_⟩
 rw[Amo rfl];have b0:=HT.out.R;have b1:=b0.set hr 0 (.complex .f32 cx cy);have b2:=b1.set hr 1 (.int .i64 d);have b3:=b2.set hr 2 (.int .i64 n);have b4:=b3.set hr 3 (.slice (some ⟨gs,0,none⟩) (n*n) (n*n));have b5:=b4.set hr 4 (.slice (some ⟨gm,0,none⟩) (n*n) (n*n))
 refine⟨gs,gm,b5,?_,?_⟩
 ·exact Aa (Aa (Aa (Aa (Aa HT.out.S b0.blk (by decide) _) b1.blk (by decide) _) b2.blk (by decide) _) b3.blk (by decide) _) b4.blk (by decide) _
 ·exact Aa (Aa (Aa (Aa (Aa HT.out.M b0.blk (by decide) _) b1.blk (by decide) _) b2.blk (by decide) _) b3.blk (by decide) _) b4.blk (by decide) _
end
end
namespace Co
open Go.Conc Tl Lr Bar
def Aj6 (b:Frame)(H:List Item->Act->World->Prop)(x:St):Prop:=x.cs=[]/\∃t a,x.fr=b.at a t/\H t a x.V
theorem Jr {X:Cx}{P P':Program}(Hw:Whole X P P')(hT:∀f,¬X.T f){H:List Item->Act->World->Prop}(hH:∀t a w τ d,H t a w->H t a { w with tape:=τ,drawn:=d }){m:Bool}{base:List Frame}{b:Frame}{a:Act}{s:List Item}
 {B:Lk} {V W:World} {fr':Frame} (hw:WR X B V W) (hf:Dj X B (b.at a s) fr') (hr:∀τ d,HW P s H a { V with tape:=τ,drawn:=d }) (hk:Bq b.kind base:=by exact .inl rfl) :
 Co P' m base (Jj X B) (Hx X V.heap.size W.heap.size B (Aj6 b H)) (Ew X B) fr' [] W:=by
 refine A3k Hw hT (F:=Aj6 b H) (fun x τ d _ ⟨h1,t,a,h2,h3⟩=>⟨h1,t,a,h2,hH _ _ _ _ _ h3⟩) (x:=⟨b.at a s,[],V⟩) hw hf .nil ⟨rfl,hk⟩ fun τ d=>?_
 obtain⟨t,a',w',h1,n,hn⟩:=hr τ d b [] [wall P];rw[Aqu,Aqu]at hn
 exact⟨⟨b.at a' t,[],w'⟩,n,⟨rfl,t,a',rfl,h1⟩,hn⟩
end Co
namespace Co
open Go.Conc Tl Lr Bar
section
variable {P : Program} {m : Bool} {base : List Frame} {R : Nat -> Prop} {Post Post' : (Nat -> Prop) -> Frame -> List Frame -> World -> Prop} {L : Nat -> Prop} {fr fr1 : Frame} {cs cs1 : List Frame} {W : World}
theorem Co.bind (h:Co P m base R Post L fr cs W)(k:∀L fr cs W,Post L fr cs W->Co P m base R Post' L fr cs W):Co P m base R Post' L fr cs W:=by
 induction h with
 | stop h=>exact k _ _ _ _ h
 | go f1 c1 w1 n1 L1 h _ ih=>exact .go f1 c1 w1 n1 L1 h ih
theorem Co.mono (h:Co P m base R Post L fr cs W)(k:∀L fr cs W,Post L fr cs W->Post' L fr cs W):Co P m base R Post' L fr cs W:=h.bind fun _ _ _ _ x=>.stop (k _ _ _ _ x)
theorem Co.Abt {base2:List Frame}(h:Co P m (base2++base) R Post L fr cs W):Co P m base R (fun L fr cs W=>∃c0,cs=c0++base2/\Post L fr c0 W) L fr (cs++base2) W:=by
 induction h with
 | @stop L fr cs W h=>exact .stop ⟨cs,rfl,h⟩
 | go f1 c1 w1 n1 L1 h _ ih=>exact .go f1 (fun w=>c1 w++base2) w1 n1 L1 (fun W2 hr=>by rw[Ao4,Ao4];exact h W2 hr) ih
theorem Aai (hL:∀b,L b->b<W.heap.size):Did L R W L W #[]:=⟨fun _ h=>h,fun _ h=>.inl h,hL,Am0 _,fun _ _ _=>rfl,rfl,⟨rfl,rfl⟩,fun e he=>by simp at he⟩
theorem Aah {n:Array Event}(hL:∀b,L b->b<W.heap.size)(hn:∀e∈n,EvC L R e):Did L R W L W n:=⟨fun _ h=>h,fun _ h=>.inl h,hL,Am0 _,fun _ _ _=>rfl,rfl,⟨rfl,rfl⟩,hn⟩
theorem Dy {W2:World}(hL:∀b,L b->b<W.heap.size)(h:Aw L R W W2):∀b,L b->b<W2.heap.size:=fun b x=>Am2 (hL b x) h.1
theorem Co.step {L1:World->Nat->Prop}(w1:World->World)(n1:World->Array Event)(h:∀W2,Aw L R W W2->stepG P m (G fr (cs++base)) W2=.go (G fr1 (cs1++base)) (w1 W2) (n1 W2)/\Did L R W2 (L1 W2) (w1 W2) (n1 W2))
 (k:∀W2,Aw L R W W2->Co P m base R Post (L1 W2) fr1 cs1 (w1 W2)):Co P m base R Post L fr cs W:=.go (fun _=>fr1) (fun _=>cs1) w1 n1 L1 h k
theorem Co.ctl (hL:∀b,L b->b<W.heap.size)(h:∀W2,stepG P m (G fr (cs++base)) W2=.go (G fr1 (cs1++base)) W2 #[])(k:∀W2,Aw L R W W2->Co P m base R Post L fr1 cs1 W2):Co P m base R Post L fr cs W :=
 .step (L1:=fun _=>L) id (fun _=>#[]) (fun W2 hr=>⟨h W2,Aai (Dy hL hr)⟩) k
end
theorem Aau {fr:Frame}(h1:fr.mode=.run)(h2:fr.roundOf=none):fr=fr.at ⟨fr.tmps,fr.defers⟩ fr.todo:=by
 obtain⟨a,b,c,d,e,f,g⟩:=fr;dsimp only at h1 h2;subst h1 h2
 rfl
section
variable {P : Program} {a : Act} {o : Oper} {w : World}
def Yields (P:Program)(a:Act)(o:Oper)(v:Value):Prop:=∀w,(execOp a.eval o).run P w=.ok (.value v) w /\(execOp a.eval o).events P w #[]=#[]
theorem Dv {x:Operand}(h:o.op=.move x):Yields P a o (a.eval x):=fun w=>by
 constructor
 ·unfold execOp;simp[h]
 ·unfold execOp;simp[h]
theorem Vh {x:Operand}(h:o.op=.assign x):Yields P a o (a.eval x):=fun w=>by
 constructor
 ·unfold execOp;simp[h]
 ·unfold execOp;simp[h]
end
section
variable {P : Program} {m : Bool} {base : List Frame} {R : Nat -> Prop} {Post : (Nat -> Prop) -> Frame -> List Frame -> World -> Prop} {L : Nat -> Prop} {b : Frame} {a : Act} {cs : List Frame} {W : World} {k : List Item}
theorem Co.val {ops:Array Oper}{i:Nat}{rest:List Nat}{o:Oper}{v:Value}(ho:ops[i]?=some o)(hg:o.guard=none)(hk:b.kind≠.early)(hy:Yields P a o v)(hL:∀b,L b->b<W.heap.size)
 (h:∀W2,Aw L R W W2->Co P m base R Post L (b.at (a.put o.dst v) (.inRegion ops rest :: k)) cs W2):Co P m base R Post L (b.at a (.inRegion ops (i :: rest) :: k)) cs W :=
 .ctl hL (fun W2=>by
  rw[stepG_value ho (by simp[Region.wanted,hg]) hk (hy W2).1]
  unfold listed;rw[(hy W2).2,seen_none]) h
theorem Co.region {id:Nat}{ops:Array Oper}(hL:∀b,L b->b<W.heap.size)(h:∀W2,Aw L R W W2->Co P m base R Post L (b.at a (.inRegion ops (List.range ops.size) :: k)) cs W2):Co P m base R Post L (b.at a (.code (.region id ops false) :: k)) cs W :=
 .ctl hL (fun _=>stepG_region) h
theorem Co.I6 {ops:Array Oper}(hL:∀b,L b->b<W.heap.size)(h:∀W2,Aw L R W W2->Co P m base R Post L (b.at a k) cs W2):Co P m base R Post L (b.at a (.inRegion ops [] :: k)) cs W :=
 .ctl hL (fun _=>stepG_region_end) h
end
end Co
end Go.Proofs.YtjaehldnlamgkaaGreatDoor
