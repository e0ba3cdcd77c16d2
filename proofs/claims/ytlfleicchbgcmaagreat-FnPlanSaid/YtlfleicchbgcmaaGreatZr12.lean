import Derived.Test.YtlfleicchbgcmaaGreatZr11
import Derived.Test.YtlfleicchbgcmaaGreatZr6
import Derived.Conc.Beside
import Derived.Test.YtlfleicchbgcmaaGreatZr0
import Derived.Test.YtlfleicchbgcmaaGreatZrK
set_option linter.all false
set_option maxHeartbeats 16000000
set_option maxRecDepth 100000
namespace Go.Proofs.YtlfleicchbgcmaaGreat
namespace Ok
open Go.Conc Lr
def I6 (P:Program)(f:Nat):Code:=((P.funcs[f]?).bind (·.body)).getD .skip
def Np:List (Nat×List Nat):=[(33,[0,13]),(15,[9,10,12])]
def Sh (P:Program)(why:String)(d:Code):Prop:=∃k∈Np,∃r∈Js (I6 P k.1),k.2.contains r.1=true/\why=A82 r.1/\d=.region r.1 r.2.1 r.2.2
theorem Abe {P P':Program}{cl:List Nat}{D F:Nat->Prop}(ids:List Nat)(f:Nat)(hk:(f,ids)∈Np)(c:Code)(hc:I6 P f=c)(h:Gz P' cl [] ids c=true):Km (cx P' cl [] (Sh P) D F) (cut ids c) c:=by
 subst hc
 exact J9 (X:=cx P' cl [] (Sh P) D F) (cl:=cl) (gl:=[]) Akd (fun g h=>by cases h) (fun o h=>h) ids (I6 P f) (fun r hr hi=>⟨(f,ids),hk,r,hr,hi,rfl,rfl⟩) h
theorem Aey:Gz Vp.prog phs [] [0,13] (I6 Tryz.prog 33)=true:=by kernel_rfl
theorem Aev:Gz Vp.prog phs [] [9,10,12] (I6 Tryz.prog 15)=true:=by kernel_rfl
end Ok
section
open Go.RowKit Co Ok
attribute [local go_sem ↓] Go.wp_at_zero Go.wp_at_succ
theorem Agv (t:Array Value)(h:t.size=61):∃y0 y1 y2 y3 y4 y5 y6 y7 y8 y9 y10 y11 y12 y13 y14 y15 y16 y17 y18 y19 y20 y21 y22 y23 y24 y25 y26 y27 y28 y29 y30 y31 y32 y33 y34 y35 y36 y37 y38 y39 y40 y41 y42 y43 y44 y45 y46 y47 y48 y49 y50 y51 y52 y53 y54 y55 y56 y57 y58 y59 y60:Value,t=#[y0,y1,y2,y3,y4,y5,y6,y7,y8,y9,y10,y11,y12,y13,y14,y15,y16,y17,y18,y19,y20,y21,y22,y23,y24,y25,y26,y27,y28,y29,y30,y31,y32,y33,y34,y35,y36,y37,y38,y39,y40,y41,y42,y43,y44,y45,y46,y47,y48,y49,y50,y51,y52,y53,y54,y55,y56,y57,y58,y59,y60]:=by
 obtain⟨l⟩:=t;simp only[Asx]at h
 rcases l with _ |⟨y0,l⟩
 ·simp at h
 rcases l with _ |⟨y1,l⟩
 ·simp at h
 rcases l with _ |⟨y2,l⟩
 ·simp at h
 rcases l with _ |⟨y3,l⟩
 ·simp at h
 rcases l with _ |⟨y4,l⟩
 ·simp at h
 rcases l with _ |⟨y5,l⟩
 ·simp at h
 rcases l with _ |⟨y6,l⟩
 ·simp at h
 rcases l with _ |⟨y7,l⟩
 ·simp at h
 rcases l with _ |⟨y8,l⟩
 ·simp at h
 rcases l with _ |⟨y9,l⟩
 ·simp at h
 rcases l with _ |⟨y10,l⟩
 ·simp at h
 rcases l with _ |⟨y11,l⟩
 ·simp at h
 rcases l with _ |⟨y12,l⟩
 ·simp at h
 rcases l with _ |⟨y13,l⟩
 ·simp at h
 rcases l with _ |⟨y14,l⟩
 ·simp at h
 rcases l with _ |⟨y15,l⟩
 ·simp at h
 rcases l with _ |⟨y16,l⟩
 ·simp at h
 rcases l with _ |⟨y17,l⟩
 ·simp at h
 rcases l with _ |⟨y18,l⟩
 ·simp at h
 rcases l with _ |⟨y19,l⟩
 ·simp at h
 rcases l with _ |⟨y20,l⟩
 ·simp at h
 rcases l with _ |⟨y21,l⟩
 ·simp at h
 rcases l with _ |⟨y22,l⟩
 ·simp at h
 rcases l with _ |⟨y23,l⟩
 ·simp at h
 rcases l with _ |⟨y24,l⟩
 ·simp at h
 rcases l with _ |⟨y25,l⟩
 ·simp at h
 rcases l with _ |⟨y26,l⟩
 ·simp at h
 rcases l with _ |⟨y27,l⟩
 ·simp at h
 rcases l with _ |⟨y28,l⟩
 ·simp at h
 rcases l with _ |⟨y29,l⟩
 ·simp at h
 rcases l with _ |⟨y30,l⟩
 ·simp at h
 rcases l with _ |⟨y31,l⟩
 ·simp at h
 rcases l with _ |⟨y32,l⟩
 ·simp at h
 rcases l with _ |⟨y33,l⟩
 ·simp at h
 rcases l with _ |⟨y34,l⟩
 ·simp at h
 rcases l with _ |⟨y35,l⟩
 ·simp at h
 rcases l with _ |⟨y36,l⟩
 ·simp at h
 rcases l with _ |⟨y37,l⟩
 ·simp at h
 rcases l with _ |⟨y38,l⟩
 ·simp at h
 rcases l with _ |⟨y39,l⟩
 ·simp at h
 rcases l with _ |⟨y40,l⟩
 ·simp at h
 rcases l with _ |⟨y41,l⟩
 ·simp at h
 rcases l with _ |⟨y42,l⟩
 ·simp at h
 rcases l with _ |⟨y43,l⟩
 ·simp at h
 rcases l with _ |⟨y44,l⟩
 ·simp at h
 rcases l with _ |⟨y45,l⟩
 ·simp at h
 rcases l with _ |⟨y46,l⟩
 ·simp at h
 rcases l with _ |⟨y47,l⟩
 ·simp at h
 rcases l with _ |⟨y48,l⟩
 ·simp at h
 rcases l with _ |⟨y49,l⟩
 ·simp at h
 rcases l with _ |⟨y50,l⟩
 ·simp at h
 rcases l with _ |⟨y51,l⟩
 ·simp at h
 rcases l with _ |⟨y52,l⟩
 ·simp at h
 rcases l with _ |⟨y53,l⟩
 ·simp at h
 rcases l with _ |⟨y54,l⟩
 ·simp at h
 rcases l with _ |⟨y55,l⟩
 ·simp at h
 rcases l with _ |⟨y56,l⟩
 ·simp at h
 rcases l with _ |⟨y57,l⟩
 ·simp at h
 rcases l with _ |⟨y58,l⟩
 ·simp at h
 rcases l with _ |⟨y59,l⟩
 ·simp at h
 rcases l with _ |⟨y60,l⟩
 ·simp at h
 rcases l with _ |⟨y,l⟩
 ·exact⟨y0,y1,y2,y3,y4,y5,y6,y7,y8,y9,y10,y11,y12,y13,y14,y15,y16,y17,y18,y19,y20,y21,y22,y23,y24,y25,y26,y27,y28,y29,y30,y31,y32,y33,y34,y35,y36,y37,y38,y39,y40,y41,y42,y43,y44,y45,y46,y47,y48,y49,y50,y51,y52,y53,y54,y55,y56,y57,y58,y59,y60,rfl⟩
 ·simp at h
noncomputable def sR0:Code:=match Ge with|.seq a _=>a|_=>.skip
noncomputable def sR1:Code:=match Ge with|.seq _ (.seq a _)=>a|_=>.skip
noncomputable def sR2:Code:=match sX0 with|.seq a _=>a|_=>.skip
noncomputable def Aor:Code:=match A5q with|.seq _ (.seq _ (.seq _ a))=>a|_=>.skip
noncomputable def A5p:Code:=match sX0 with|.seq _ (.seq _ (.seq _ a))=>a|_=>.skip
noncomputable def sX:Code:=cut [0,13] sX0
theorem Adc:I6 Tryz.prog 33=Ge:=by kernel_rfl
theorem Al1:sX=.seq sR2 (.seq (.cond (.tmp 19) .skip (.exit 0)) (.seq (.block 1 (.seq sR3 (.seq sR4 (.seq sIn (.refuse "13"))))) A5p)):=by kernel_rfl
theorem A8q:cut [0,13] Ge=.seq (.refuse "0") (.seq sR1 (.block 0 (.loop sX))):=by kernel_rfl
structure SA (ch:Value)(cx cy d n:Nat)(A4:Int)(i:Nat)(a:Act):Prop where
 size:a.tmps.size=61
 t0:a.tmps[0]?=some ch
 t1:a.tmps[1]?=some (.complex .f32 cx cy)
 t2:a.tmps[2]?=some (.int .i64 d)
 t3:a.tmps[3]?=some (.int .i64 n)
 t4:a.tmps[4]?=some (.int .i64 A4)
 t17:a.tmps[17]?=some (.int .i64 n)
 t18:a.tmps[18]?=some (.int .i64 i)
theorem SA.arr {ch:Value}{cx cy d n i:Nat}{A4:Int}{a:Act}(h:SA ch cx cy d n A4 i a):∃y5 y6 y7 y8 y9 y10 y11 y12 y13 y14 y15 y16 y19 y20 y21 y22 y23 y24 y25 y26 y27 y28 y29 y30 y31 y32 y33 y34 y35 y36 y37 y38 y39 y40 y41 y42 y43 y44 y45 y46 y47 y48 y49 y50 y51 y52 y53 y54 y55 y56 y57 y58 y59 y60:Value,a=⟨#[ch,(.complex .f32 cx cy),(.int .i64 d),(.int .i64 n),(.int .i64 A4),y5,y6,y7,y8,y9,y10,y11,y12,y13,y14,y15,y16,(.int .i64 n),(.int .i64 i),y19,y20,y21,y22,y23,y24,y25,y26,y27,y28,y29,y30,y31,y32,y33,y34,y35,y36,y37,y38,y39,y40,y41,y42,y43,y44,y45,y46,y47,y48,y49,y50,y51,y52,y53,y54,y55,y56,y57,y58,y59,y60],a.defers⟩:=by
 obtain⟨t,ds⟩:=a;obtain⟨y0,y1,y2,y3,y4,y5,y6,y7,y8,y9,y10,y11,y12,y13,y14,y15,y16,y17,y18,y19,y20,y21,y22,y23,y24,y25,y26,y27,y28,y29,y30,y31,y32,y33,y34,y35,y36,y37,y38,y39,y40,y41,y42,y43,y44,y45,y46,y47,y48,y49,y50,y51,y52,y53,y54,y55,y56,y57,y58,y59,y60,rfl⟩:=Agv t h.size;obtain⟨_,h0,h1,h2,h3,h4,h17,h18⟩:=h
 cases h0;cases h1;cases h2;cases h3;cases h4;cases h17;cases h18
 exact⟨y5,y6,y7,y8,y9,y10,y11,y12,y13,y14,y15,y16,y19,y20,y21,y22,y23,y24,y25,y26,y27,y28,y29,y30,y31,y32,y33,y34,y35,y36,y37,y38,y39,y40,y41,y42,y43,y44,y45,y46,y47,y48,y49,y50,y51,y52,y53,y54,y55,y56,y57,y58,y59,y60,rfl⟩
def HS (ch:Value)(cx cy d n:Nat)(A4:Int)(st:Nat->Nat->Int)(sm:Nat->Nat->Nat)(ds:List Deferred)(i:Nat)(t:List Item)(a:Act)(w':World):Prop :=
 (i<n/\t=[.code (.refuse "13"), .inBlock 1,.code A5p,.inLoop sX,.inBlock 0]/\∃w:World,Ael ch cx cy d n A4 st sm ds w i a w') \/(i=n/\t=[]/\a.tmps.size=61/\a.defers=ds)
section
variable {cx cy d n : Nat} {A4 : Int} {px py : Nat -> Nat -> Nat} {bx : Nat -> Nat -> Value} {st : Nat -> Nat -> Int} {sm : Nat -> Nat -> Nat} (C : L3 cx cy d n A4 px py bx st sm) (hn : n <= 8) {ch : Value} {i : Nat} {a : Act}
include C hn
theorem A75 (hi:i<=n)(h:SA ch cx cy d n A4 i a)(w:World):HW Vp.prog [.code sX,.inLoop sX,.inBlock 0] (HS ch cx cy d n A4 st sm a.defers i) a w:=by
 obtain⟨y5,y6,y7,y8,y9,y10,y11,y12,y13,y14,y15,y16,y19,y20,y21,y22,y23,y24,y25,y26,y27,y28,y29,y30,y31,y32,y33,y34,y35,y36,y37,y38,y39,y40,y41,y42,y43,y44,y45,y46,y47,y48,y49,y50,y51,y52,y53,y54,y55,y56,y57,y58,y59,y60,ha⟩:=h.arr;obtain⟨t,ds⟩:=a;dsimp only at ha ⊢;rw[ha];clear ha h;rw[show Item.code sX=Item.code (.seq sR2 (.seq (.cond (.tmp 19) .skip (.exit 0)) (.seq (.block 1 (.seq sR3 (.seq sR4 (.seq sIn (.refuse "13"))))) A5p)))from congrArg Item.code Al1]
 refine .seq ?_
 by_cases hlt:i<n
 ·refine HW.Qh (N:=fun a' w'=>w'=w/\a'=⟨#[ch,(.complex .f32 cx cy),(.int .i64 d),(.int .i64 n),(.int .i64 A4),y5,y6,y7,y8,y9,y10,y11,y12,y13,y14,y15,y16,(.int .i64 n),(.int .i64 i),.bool true,y20,y21,y22,y23,y24,y25,y26,y27,y28,y29,y30,y31,y32,y33,y34,y35,y36,y37,y38,y39,y40,y41,y42,y43,y44,y45,y46,y47,y48,y49,y50,y51,y52,y53,y54,y55,y56,y57,y58,y59,y60],ds⟩) ?_ ?_
  ·unfold sR2 sX0 Ge Tryz.f33;dsimp only[Option.getD]
   go_wp2
   exact⟨rfl,rfl⟩
  ·rintro _ _ ⟨rfl,rfl⟩
   refine .seq (.cond (t:=true) rfl (.skip (.seq (.block (.seq ?_)))))
   refine HW.Qh (Aik C hn i hlt ch ds _ _ _ _ _ _ _ _ _ _ _ _ _ _ _ _ _ _ _ _ _ _ _ _ _ _ _ _ _ _ _ _ _ _ _ _ _ _ _ _ _ _ _ _ _ _ _ _ _ _ _ _ _ _ _) fun a1 w1 h1=>.seq (HW.Qh h1 fun a2 w2 h2=>.seq (HW.Qh h2 fun a3 w3 h3=>.stop (.inl ⟨hlt,rfl,_,h3⟩)))
 ·obtain rfl:i=n:=by omega
  refine HW.Qh (N:=fun a' w'=>w'=w/\a'=⟨#[ch,(.complex .f32 cx cy),(.int .i64 d),(.int .i64 i),(.int .i64 A4),y5,y6,y7,y8,y9,y10,y11,y12,y13,y14,y15,y16,(.int .i64 i),(.int .i64 i),.bool false,y20,y21,y22,y23,y24,y25,y26,y27,y28,y29,y30,y31,y32,y33,y34,y35,y36,y37,y38,y39,y40,y41,y42,y43,y44,y45,y46,y47,y48,y49,y50,y51,y52,y53,y54,y55,y56,y57,y58,y59,y60],ds⟩) ?_ ?_
  ·unfold sR2 sX0 Ge Tryz.f33;dsimp only[Option.getD]
   go_wp2
   exact⟨rfl,rfl⟩
  ·rintro _ _ ⟨rfl,rfl⟩
   exact .seq (.cond (t:=false) rfl (.exit (s':=[]) rfl (.stop (.inr ⟨rfl,rfl,rfl,rfl⟩))))
theorem Afd (hi:i<n)(h:SA ch cx cy d n A4 i a)(w:World):HW Vp.prog [.inBlock 1,.code A5p,.inLoop sX,.inBlock 0] (HS ch cx cy d n A4 st sm a.defers (i+1)) a w:=by
 obtain⟨y5,y6,y7,y8,y9,y10,y11,y12,y13,y14,y15,y16,y19,y20,y21,y22,y23,y24,y25,y26,y27,y28,y29,y30,y31,y32,y33,y34,y35,y36,y37,y38,y39,y40,y41,y42,y43,y44,y45,y46,y47,y48,y49,y50,y51,y52,y53,y54,y55,y56,y57,y58,y59,y60,ha⟩:=h.arr;obtain⟨t,ds⟩:=a;dsimp only at ha ⊢;rw[ha];clear ha h
 refine .inBlock (HW.Qh (N:=fun a' w'=>w'=w/\SA ch cx cy d n A4 (i+1) a'/\a'.defers=ds) ?_ ?_)
 ·unfold A5p sX0 Ge Tryz.f33;dsimp only[Option.getD]
  go_wp2
  exact⟨rfl,⟨rfl,rfl,rfl,rfl,rfl,rfl,rfl,by go_num⟩,rfl⟩
 ·rintro a1 _ ⟨rfl,h1,rfl⟩
  exact .inLoop (A75 C hn hi h1 _)
theorem Ac4 (hsz:a.tmps.size=61)(h0:a.tmps[0]?=some ch)(h1:a.tmps[1]?=some (.complex .f32 cx cy))(h2:a.tmps[2]?=some (.int .i64 d))(h3:a.tmps[3]?=some (.int .i64 n))(h4:a.tmps[4]?=some (.int .i64 A4))(w:World) :
 HW Vp.prog [.code (.seq sR1 (.block 0 (.loop sX)))] (HS ch cx cy d n A4 st sm a.defers 0) a w:=by
 obtain⟨t,ds⟩:=a;dsimp only at hsz h0 h1 h2 h3 h4 ⊢;obtain⟨y0,y1,y2,y3,y4,y5,y6,y7,y8,y9,y10,y11,y12,y13,y14,y15,y16,y17,y18,y19,y20,y21,y22,y23,y24,y25,y26,y27,y28,y29,y30,y31,y32,y33,y34,y35,y36,y37,y38,y39,y40,y41,y42,y43,y44,y45,y46,y47,y48,y49,y50,y51,y52,y53,y54,y55,y56,y57,y58,y59,y60,rfl⟩:=Agv t hsz
 cases h0;cases h1;cases h2;cases h3;cases h4
 refine .seq (HW.Qh (N:=fun a' w'=>w'=w/\SA y0 cx cy d n A4 0 a'/\a'.defers=ds) ?_ ?_)
 ·unfold sR1 Ge Tryz.f33;dsimp only[Option.getD]
  go_wp2
  exact⟨rfl,⟨rfl,rfl,rfl,rfl,rfl,rfl,rfl,rfl⟩,rfl⟩
 ·rintro a1 _ ⟨rfl,h1,rfl⟩
  exact .block (.loop (A75 C hn (Aq1 _) h1 _))
end
end
section
open Go.RowKit Co Ok
attribute [local go_sem ↓] Go.wp_at_zero Go.wp_at_succ
attribute [local go_sem] A7 A5
theorem Wm (t:Array Value)(h:t.size=71):∃y0 y1 y2 y3 y4 y5 y6 y7 y8 y9 y10 y11 y12 y13 y14 y15 y16 y17 y18 y19 y20 y21 y22 y23 y24 y25 y26 y27 y28 y29 y30 y31 y32 y33 y34 y35 y36 y37 y38 y39 y40 y41 y42 y43 y44 y45 y46 y47 y48 y49 y50 y51 y52 y53 y54 y55 y56 y57 y58 y59 y60 y61 y62 y63 y64 y65 y66 y67 y68 y69 y70:Value,t=#[y0,y1,y2,y3,y4,y5,y6,y7,y8,y9,y10,y11,y12,y13,y14,y15,y16,y17,y18,y19,y20,y21,y22,y23,y24,y25,y26,y27,y28,y29,y30,y31,y32,y33,y34,y35,y36,y37,y38,y39,y40,y41,y42,y43,y44,y45,y46,y47,y48,y49,y50,y51,y52,y53,y54,y55,y56,y57,y58,y59,y60,y61,y62,y63,y64,y65,y66,y67,y68,y69,y70]:=by
 obtain⟨l⟩:=t;simp only[Asx]at h
 rcases l with _ |⟨y0,l⟩
 ·simp at h
 rcases l with _ |⟨y1,l⟩
 ·simp at h
 rcases l with _ |⟨y2,l⟩
 ·simp at h
 rcases l with _ |⟨y3,l⟩
 ·simp at h
 rcases l with _ |⟨y4,l⟩
 ·simp at h
 rcases l with _ |⟨y5,l⟩
 ·simp at h
 rcases l with _ |⟨y6,l⟩
 ·simp at h
 rcases l with _ |⟨y7,l⟩
 ·simp at h
 rcases l with _ |⟨y8,l⟩
 ·simp at h
 rcases l with _ |⟨y9,l⟩
 ·simp at h
 rcases l with _ |⟨y10,l⟩
 ·simp at h
 rcases l with _ |⟨y11,l⟩
 ·simp at h
 rcases l with _ |⟨y12,l⟩
 ·simp at h
 rcases l with _ |⟨y13,l⟩
 ·simp at h
 rcases l with _ |⟨y14,l⟩
 ·simp at h
 rcases l with _ |⟨y15,l⟩
 ·simp at h
 rcases l with _ |⟨y16,l⟩
 ·simp at h
 rcases l with _ |⟨y17,l⟩
 ·simp at h
 rcases l with _ |⟨y18,l⟩
 ·simp at h
 rcases l with _ |⟨y19,l⟩
 ·simp at h
 rcases l with _ |⟨y20,l⟩
 ·simp at h
 rcases l with _ |⟨y21,l⟩
 ·simp at h
 rcases l with _ |⟨y22,l⟩
 ·simp at h
 rcases l with _ |⟨y23,l⟩
 ·simp at h
 rcases l with _ |⟨y24,l⟩
 ·simp at h
 rcases l with _ |⟨y25,l⟩
 ·simp at h
 rcases l with _ |⟨y26,l⟩
 ·simp at h
 rcases l with _ |⟨y27,l⟩
 ·simp at h
 rcases l with _ |⟨y28,l⟩
 ·simp at h
 rcases l with _ |⟨y29,l⟩
 ·simp at h
 rcases l with _ |⟨y30,l⟩
 ·simp at h
 rcases l with _ |⟨y31,l⟩
 ·simp at h
 rcases l with _ |⟨y32,l⟩
 ·simp at h
 rcases l with _ |⟨y33,l⟩
 ·simp at h
 rcases l with _ |⟨y34,l⟩
 ·simp at h
 rcases l with _ |⟨y35,l⟩
 ·simp at h
 rcases l with _ |⟨y36,l⟩
 ·simp at h
 rcases l with _ |⟨y37,l⟩
 ·simp at h
 rcases l with _ |⟨y38,l⟩
 ·simp at h
 rcases l with _ |⟨y39,l⟩
 ·simp at h
 rcases l with _ |⟨y40,l⟩
 ·simp at h
 rcases l with _ |⟨y41,l⟩
 ·simp at h
 rcases l with _ |⟨y42,l⟩
 ·simp at h
 rcases l with _ |⟨y43,l⟩
 ·simp at h
 rcases l with _ |⟨y44,l⟩
 ·simp at h
 rcases l with _ |⟨y45,l⟩
 ·simp at h
 rcases l with _ |⟨y46,l⟩
 ·simp at h
 rcases l with _ |⟨y47,l⟩
 ·simp at h
 rcases l with _ |⟨y48,l⟩
 ·simp at h
 rcases l with _ |⟨y49,l⟩
 ·simp at h
 rcases l with _ |⟨y50,l⟩
 ·simp at h
 rcases l with _ |⟨y51,l⟩
 ·simp at h
 rcases l with _ |⟨y52,l⟩
 ·simp at h
 rcases l with _ |⟨y53,l⟩
 ·simp at h
 rcases l with _ |⟨y54,l⟩
 ·simp at h
 rcases l with _ |⟨y55,l⟩
 ·simp at h
 rcases l with _ |⟨y56,l⟩
 ·simp at h
 rcases l with _ |⟨y57,l⟩
 ·simp at h
 rcases l with _ |⟨y58,l⟩
 ·simp at h
 rcases l with _ |⟨y59,l⟩
 ·simp at h
 rcases l with _ |⟨y60,l⟩
 ·simp at h
 rcases l with _ |⟨y61,l⟩
 ·simp at h
 rcases l with _ |⟨y62,l⟩
 ·simp at h
 rcases l with _ |⟨y63,l⟩
 ·simp at h
 rcases l with _ |⟨y64,l⟩
 ·simp at h
 rcases l with _ |⟨y65,l⟩
 ·simp at h
 rcases l with _ |⟨y66,l⟩
 ·simp at h
 rcases l with _ |⟨y67,l⟩
 ·simp at h
 rcases l with _ |⟨y68,l⟩
 ·simp at h
 rcases l with _ |⟨y69,l⟩
 ·simp at h
 rcases l with _ |⟨y70,l⟩
 ·simp at h
 rcases l with _ |⟨y,l⟩
 ·exact⟨y0,y1,y2,y3,y4,y5,y6,y7,y8,y9,y10,y11,y12,y13,y14,y15,y16,y17,y18,y19,y20,y21,y22,y23,y24,y25,y26,y27,y28,y29,y30,y31,y32,y33,y34,y35,y36,y37,y38,y39,y40,y41,y42,y43,y44,y45,y46,y47,y48,y49,y50,y51,y52,y53,y54,y55,y56,y57,y58,y59,y60,y61,y62,y63,y64,y65,y66,y67,y68,y69,y70,rfl⟩
 ·simp at h
noncomputable def Bn:Code:=Tryz.f15.body.getD .skip
noncomputable def mR0:Code:=match Bn with|.seq a _=>a|_=>.skip
noncomputable def mR1:Code:=match Bn with|.seq _ (.seq (.seq a _) _)=>a|_=>.skip
noncomputable def mR2:Code:=match Bn with|.seq _ (.seq (.seq _ (.cond _ (.seq a _) _)) _)=>a|_=>.skip
noncomputable def mB:Code:=match Bn with|.seq _ (.seq _ b)=>b|_=>.skip
noncomputable def mR3:Code:=match mB with|.seq a _=>a|_=>.skip
noncomputable def mR4:Code:=match mB with|.seq _ (.seq (.seq a _) _)=>a|_=>.skip
noncomputable def mR5:Code:=match mB with|.seq _ (.seq (.seq _ (.cond _ (.seq a _) _)) _)=>a|_=>.skip
noncomputable def mD:Code:=match mB with|.seq _ (.seq _ b)=>b|_=>.skip
noncomputable def mR6:Code:=match mD with|.seq a _=>a|_=>.skip
noncomputable def mR7:Code:=match mD with|.seq _ (.seq a _)=>a|_=>.skip
noncomputable def mR8:Code:=match mD with|.seq _ (.seq _ (.seq a _))=>a|_=>.skip
noncomputable def mE:Code:=match mD with|.seq _ (.seq _ (.seq _ (.seq _ (.seq _ b))))=>b|_=>.skip
noncomputable def Akn:Code:=match mE with|.seq (.seq a _) _=>a|_=>.skip
noncomputable def Qt:Code:=match mE with|.seq (.seq _ (.block _ (.loop y))) _=>y|_=>.skip
noncomputable def A5c:Code:=match mE with|.seq _ (.seq a _)=>a|_=>.skip
noncomputable def Afi:Code:=match Qt with|.seq _ (.seq _ (.block _ (.seq a _)))=>a|_=>.skip
noncomputable def Afj:Code:=match Qt with|.seq _ (.seq _ (.block _ (.seq _ (.seq a _))))=>a|_=>.skip
noncomputable def Afk:Code:=match Qt with|.seq _ (.seq _ (.block _ (.seq _ (.seq _ a))))=>a|_=>.skip
noncomputable def mZ:Code:=.seq (.cond (.tmp 56) .skip (.exit 0)) (.block 1 (.seq Afi (.seq Afj Afk)))
noncomputable def mY:Code:=.seq (.refuse "12") mZ
noncomputable def mF:Code:=.seq (.seq Akn (.block 0 (.loop mY))) (.seq A5c .ret)
theorem Ack:I6 Tryz.prog 15=Bn:=by kernel_rfl
theorem Pu:cut [9,10,12] Bn=.seq mR0 (.seq (.seq mR1 (.cond (.tmp 18) (.seq mR2 .ret) .skip)) (.seq mR3 (.seq (.seq mR4 (.cond (.tmp 32) (.seq mR5 .ret) .skip)) (.seq mR6 (.seq mR7 (.seq mR8 (.seq (.refuse "9") (.seq (.refuse "10") mF)))))))):=by kernel_rfl
structure TX (w:World)(rb ob cx cy d n cap N M gs gm:Nat)(xs:List Nat)(ys:List Int)(W:World):Prop where
 O:A9 w ob (Bz cx cy d n (.slice (some ⟨gs,0,none⟩) N cap) (.slice (some ⟨gm,0,none⟩) M cap)) 35 W
 R:A9 w rb (Bz 0 0 0 0 (.slice none 0 0) (.slice none 0 0)) 35 W
 S:W.ownsRow w.heap.size 74 1 (.slice (some ⟨gs,0,none⟩) N cap) N (xs.map Dd)
 M:W.ownsRow w.heap.size 3 1 (.slice (some ⟨gm,0,none⟩) M cap) M (ys.map Ax)
 ne:rb≠ob
 hr:w.heap.size<=rb
 ho:w.heap.size<=ob
section
variable {w W W' : World} {rb ob cx cy d n cap N M gs gm : Nat} {xs : List Nat} {ys : List Int}
theorem TX.step (h:TX w rb ob cx cy d n cap N M gs gm xs ys W)(k:Below W.heap.size W W'):TX w rb ob cx cy d n cap N M gs gm xs ys W':=⟨h.O.step k,h.R.step k,Ab h.S k,Ab h.M k,h.ne,h.hr,h.ho⟩
theorem TX.alloc (h:TX w rb ob cx cy d n cap N M gs gm xs ys W)(o:Obj):TX w rb ob cx cy d n cap N M gs gm xs ys (W.alloc o):=h.step ((Aph _ _).alloc (Ap0 _) o)
theorem TX.old (h:TX w rb ob cx cy d n cap N M gs gm xs ys W):Below w.heap.size w W:=h.O.old
theorem TX.oc (h:TX w rb ob cx cy d n cap N M gs gm xs ys W) :
 W.cell? ⟨ob,0,none⟩=some (.complex .f32 cx cy)/\W.cell? ⟨ob,1,none⟩=some (.int .i64 d)/\W.cell? ⟨ob,2,none⟩=some (.int .i64 n)/\W.cell? ⟨ob,3,none⟩=some (.slice (some ⟨gs,0,none⟩) N cap)/\W.cell? ⟨ob,4,none⟩=some (.slice (some ⟨gm,0,none⟩) M cap):=h.O.Ad
theorem TX.rc (h:TX w rb ob cx cy d n cap N M gs gm xs ys W) :
 W.cell? ⟨rb,0,none⟩=some (.complex .f32 0 0)/\W.cell? ⟨rb,1,none⟩=some (.int .i64 0)/\W.cell? ⟨rb,2,none⟩=some (.int .i64 0)/\W.cell? ⟨rb,3,none⟩=some (.slice none 0 0)/\W.cell? ⟨rb,4,none⟩=some (.slice none 0 0):=h.R.Ad
theorem TX.Io (h:TX w rb ob cx cy d n cap N M gs gm xs ys W){m:Nat}{zs:List Nat}(hown:W'.ownsRow w.heap.size 74 1 (.slice (some ⟨gs,0,none⟩) (N+m) cap) (N+m) (xs.map Dd++zs.map Dd))(hg:W.grownBy W' (some gs)) :
 TX w rb ob cx cy d n cap (N+m) M gs gm (xs++zs) ys (W'.setCell ⟨ob,3,none⟩ (.slice (some ⟨gs,0,none⟩) (N+m) cap))/\W'.cell? ⟨ob,3,none⟩=some (.slice (some ⟨gs,0,none⟩) N cap)/\W'.frozen? ⟨ob,3,none⟩=false:=by
 have hrow:∀k,some gs=some k->w.heap.size<=k:=fun k hk=>(h.S.lt k hk).1
 have O:=h.O.grown hg (Ag h.S h.O.blk (by decide)) hrow
 have R:=h.R.grown hg (Ag h.S h.R.blk (by decide)) hrow
 have M:=h.M.kept hg (Cs h.M h.S (by decide))
 refine⟨⟨?_,R.other (p:=⟨ob,3,none⟩) h.ho h.ne _,?_,A6 M O.blk (by decide) _,h.ne,h.hr,h.ho⟩,O.cell 3 _ rfl,O.frozen 3⟩
 ·have:=O.set h.ho 3 (.slice (some ⟨gs,0,none⟩) (N+m) cap)
  exact this
 ·rw[Aq2]
  exact A6 hown O.blk (by decide) _
theorem TX.mark (h:TX w rb ob cx cy d n cap N M gs gm xs ys W){m:Nat}{zs:List Int}(hown:W'.ownsRow w.heap.size 3 1 (.slice (some ⟨gm,0,none⟩) (M+m) cap) (M+m) (ys.map Ax++zs.map Ax))(hg:W.grownBy W' (some gm)) :
 TX w rb ob cx cy d n cap N (M+m) gs gm xs (ys++zs) (W'.setCell ⟨ob,4,none⟩ (.slice (some ⟨gm,0,none⟩) (M+m) cap))/\W'.cell? ⟨ob,4,none⟩=some (.slice (some ⟨gm,0,none⟩) M cap)/\W'.frozen? ⟨ob,4,none⟩=false:=by
 have hrow:∀k,some gm=some k->w.heap.size<=k:=fun k hk=>(h.M.lt k hk).1
 have O:=h.O.grown hg (Ag h.M h.O.blk (by decide)) hrow
 have R:=h.R.grown hg (Ag h.M h.R.blk (by decide)) hrow
 have S:=h.S.kept hg (Cs h.S h.M (by decide))
 refine⟨⟨?_,R.other (p:=⟨ob,4,none⟩) h.ho h.ne _,A6 S O.blk (by decide) _,?_,h.ne,h.hr,h.ho⟩,O.cell 4 _ rfl,O.frozen 4⟩
 ·have:=O.set h.ho 4 (.slice (some ⟨gm,0,none⟩) (M+m) cap)
  exact this
 ·rw[Aq2]
  exact A6 hown O.blk (by decide) _
end
structure MA (rb ob:Nat)(ch:Value)(a:Act):Prop where
 size:a.tmps.size=71
 t8:a.tmps[8]?=some (.pointer (some ⟨rb,0,none⟩))
 t11:a.tmps[11]?=some (.pointer (some ⟨ob,0,none⟩))
 t12:a.tmps[12]?=some ch
 t54:a.tmps[54]?=some ch
 ds:a.defers=[]
def Rc (cx cy d n:Nat)(Ca:Bool)(xs:List Nat)(ys:List Int)(w:World)(t:List Item)(a:Act)(W:World):Prop :=
 ∃rb rest,t=.code .ret :: rest/\a.defers=[]/\a.tmps[8]?=some (.pointer (some ⟨rb,0,none⟩))/\a.tmps[9]?=some (.bool Ca)/\w.heap.size<=rb /\
  if Ca then ∃gs gm,A9 w rb (Bz cx cy d n (.slice (some ⟨gs,0,none⟩) (n*n) (n*n)) (.slice (some ⟨gm,0,none⟩) (n*n) (n*n))) 35 W/\W.ownsRow w.heap.size 74 1 (.slice (some ⟨gs,0,none⟩) (n*n) (n*n)) (n*n) (xs.map Dd)/\W.ownsRow w.heap.size 3 1 (.slice (some ⟨gm,0,none⟩) (n*n) (n*n)) (n*n) (ys.map Ax)
  else A9 w rb (Bz 0 0 0 0 (.slice none 0 0) (.slice none 0 0)) 35 W
def A0x (cx cy d n:Nat)(A4:Int)(w:World)(t:List Item)(a:Act)(W:World):Prop :=
 ∃rb ob gs gm,t=[.code (.refuse "9"), .code (.seq (.refuse "10") mF)]/\a.tmps.size=71/\a.defers=[]/\a.tmps[0]?=some (.complex .f32 cx cy)/\a.tmps[1]?=some (.int .i64 d)/\a.tmps[2]?=some (.int .i64 n)/\a.tmps[3]?=some (.int .i64 A4) /\
  a.tmps[8]?=some (.pointer (some ⟨rb,0,none⟩))/\a.tmps[11]?=some (.pointer (some ⟨ob,0,none⟩))/\TX w rb ob cx cy d n (n*n) 0 0 gs gm [] [] W
theorem Va (w:World):A9 w w.heap.size (Bz 0 0 0 0 (.slice none 0 0) (.slice none 0 0)) 35 (w.alloc (.cells (Bz 0 0 0 0 (.slice none 0 0) (.slice none 0 0)) 35)):=A9.new w _ _
theorem Akv (h:Array Obj)(a b c e:Obj):((((h.push a).push b).push c).push e)[h.size]?=some a /\((((h.push a).push b).push c).push e)[h.size+1]?=some b /\((((h.push a).push b).push c).push e)[h.size+1+1]?=some c /\((((h.push a).push b).push c).push e)[h.size+1+1+1]?=some e:=by
 refine⟨?_,?_,?_,?_⟩
 ·rw[Apc,Ap8 (by simp only[Ath];omega)];exact(Xv _ _ _ _).1
 ·rw[Apc,Ap8 (by simp only[Ath];omega)];exact(Xv _ _ _ _).2.1
 ·rw[Apc,Ap8 (by simp)];exact(Xv _ _ _ _).2.2
 ·rw[Apc,Apb (by simp)]
theorem TX.start (w:World)(cx cy d n:Nat){cF cI:Array Value}(hF:cF.size=n*n*1)(hI:cI.size=n*n*1)(hm:n*n<=maxLen) :
 TX w w.heap.size (w.heap.size+1) cx cy d n (n*n) 0 0 (w.heap.size+1+1) (w.heap.size+1+1+1) [] [] ((((w.alloc (.cells (Bz 0 0 0 0 (.slice none 0 0) (.slice none 0 0)) 35)).alloc (.cells (Bz cx cy d n (.slice (some ⟨w.heap.size+1+1,0,none⟩) 0 (n*n)) (.slice (some ⟨w.heap.size+1+1+1,0,none⟩) 0 (n*n))) 35)).alloc (.cells cF 74)).alloc (.cells cI 3)):=by
 have hb:Below w.heap.size w ((((w.alloc (.cells (Bz 0 0 0 0 (.slice none 0 0) (.slice none 0 0)) 35)).alloc (.cells (Bz cx cy d n (.slice (some ⟨w.heap.size+1+1,0,none⟩) 0 (n*n)) (.slice (some ⟨w.heap.size+1+1+1,0,none⟩) 0 (n*n))) 35)).alloc (.cells cF 74)).alloc (.cells cI 3)) :=
  ((((Aph _ _).alloc (Ap0 _) _).alloc (by simp) _).alloc (by simp;omega) _).alloc (by simp;omega) _
 have hp:=Akv w.heap (.cells (Bz 0 0 0 0 (.slice none 0 0) (.slice none 0 0)) 35) (.cells (Bz cx cy d n (.slice (some ⟨w.heap.size+1+1,0,none⟩) 0 (n*n)) (.slice (some ⟨w.heap.size+1+1+1,0,none⟩) 0 (n*n))) 35) (.cells cF 74) (.cells cI 3)
 refine⟨⟨hp.2.1,hb⟩,⟨hp.1,hb⟩,⟨by simp,.inr ⟨_,_,cF,rfl,by omega,hp.2.2.1,Aq1 _,hm,hF,by simp⟩⟩,⟨by simp,.inr ⟨_,_,cI,rfl,by omega,hp.2.2.2,Aq1 _,hm,hI,by simp⟩⟩,by omega,by omega,by omega⟩
section
variable {cx cy d n : Nat} {A4 : Int}
theorem A4y {deep size:Int}(h:∀W,Calls Vp.prog 31 #[.complex .f32 cx cy,.int .i64 deep,.int .i64 size] W fun e w'=>e=.returned (.bool false)/\W=w')(y4 y5 y6 y7 y8 y9 y10 y11 y12 y13 y14 y15 y16 y17 y18 y19 y20 y21 y22 y23 y24 y25 y26 y27 y28 y29 y30 y31 y32 y33 y34 y35 y36 y37 y38 y39 y40 y41 y42 y43 y44 y45 y46 y47 y48 y49 y50 y51 y52 y53 y54 y55 y56 y57 y58 y59 y60 y61 y62 y63 y64 y65 y66 y67 y68 y69 y70:Value)(w:World)(xs:List Nat)(ys:List Int) :
 HW Vp.prog [.code (cut [9,10,12] Bn)] (Rc cx cy d n false xs ys w) ⟨#[(.complex .f32 cx cy),(.int .i64 deep),(.int .i64 size),(.int .i64 A4),y4,y5,y6,y7,y8,y9,y10,y11,y12,y13,y14,y15,y16,y17,y18,y19,y20,y21,y22,y23,y24,y25,y26,y27,y28,y29,y30,y31,y32,y33,y34,y35,y36,y37,y38,y39,y40,y41,y42,y43,y44,y45,y46,y47,y48,y49,y50,y51,y52,y53,y54,y55,y56,y57,y58,y59,y60,y61,y62,y63,y64,y65,y66,y67,y68,y69,y70],[]⟩ w:=by
 rw[Pu]
 refine .seq (.Ew ?_)
 unfold mR0;(try unfold Qt);(try unfold mE);(try unfold mD);(try unfold mB);unfold Bn Tryz.f15;dsimp only[Option.getD]
 go_wp2
 show HW _ _ _ _ _
 refine .seq (.seq (.Ew ?_))
 unfold mR1;(try unfold Qt);(try unfold mE);(try unfold mD);(try unfold mB);unfold Bn Tryz.f15;dsimp only[Option.getD]
 go_wp2_with (go_at_call 31;refine(h _).mono ?_;rintro e w1 ⟨rfl,rfl⟩)
 show HW _ _ _ _ _
 refine .cond (t:=true) rfl (.seq (.Ew ?_))
 unfold mR2;(try unfold Qt);(try unfold mE);(try unfold mD);(try unfold mB);unfold Bn Tryz.f15;dsimp only[Option.getD]
 go_wp2
 exact .stop ⟨w.heap.size,_,rfl,rfl,rfl,rfl,Ap0 _,by rw[Ap8 (by simp)];exact Va w⟩
theorem Ahr {ex ey:Nat}(h:∀W,Calls Vp.prog 31 #[.complex .f32 cx cy,.int .i64 d,.int .i64 n] W fun e w'=>e=.returned (.bool true)/\W=w')(hp:∀W,Calls Vp.prog 32 #[.complex .f32 cx cy,.int .i64 d,.int .i64 n,.int .i64 n] W fun e w'=>e=.returned (.complex .f32 ex ey)/\W=w')
 (hf:(FloatKind.f32.format.order ex 1090519040 == some .gt || FloatKind.f32.format.order ey 1090519040 == some .gt)=true) (y4 y5 y6 y7 y8 y9 y10 y11 y12 y13 y14 y15 y16 y17 y18 y19 y20 y21 y22 y23 y24 y25 y26 y27 y28 y29 y30 y31 y32 y33 y34 y35 y36 y37 y38 y39 y40 y41 y42 y43 y44 y45 y46 y47 y48 y49 y50 y51 y52 y53 y54 y55 y56 y57 y58 y59 y60 y61 y62 y63 y64 y65 y66 y67 y68 y69 y70:Value) (w:World) (xs:List Nat) (ys:List Int) :
 HW Vp.prog [.code (cut [9,10,12] Bn)] (Rc cx cy d n false xs ys w) ⟨#[(.complex .f32 cx cy),(.int .i64 d),(.int .i64 n),(.int .i64 A4),y4,y5,y6,y7,y8,y9,y10,y11,y12,y13,y14,y15,y16,y17,y18,y19,y20,y21,y22,y23,y24,y25,y26,y27,y28,y29,y30,y31,y32,y33,y34,y35,y36,y37,y38,y39,y40,y41,y42,y43,y44,y45,y46,y47,y48,y49,y50,y51,y52,y53,y54,y55,y56,y57,y58,y59,y60,y61,y62,y63,y64,y65,y66,y67,y68,y69,y70],[]⟩ w:=by
 rw[Pu]
 refine .seq (.Ew ?_)
 unfold mR0;(try unfold Qt);(try unfold mE);(try unfold mD);(try unfold mB);unfold Bn Tryz.f15;dsimp only[Option.getD]
 go_wp2
 show HW _ _ _ _ _
 refine .seq (.seq (.Ew ?_))
 unfold mR1;(try unfold Qt);(try unfold mE);(try unfold mD);(try unfold mB);unfold Bn Tryz.f15;dsimp only[Option.getD]
 go_wp2_with (go_at_call 31;refine(h _).mono ?_;rintro e w1 ⟨rfl,rfl⟩)
 show HW _ _ _ _ _
 refine .cond (t:=false) rfl (.skip (.seq (.Ew ?_)))
 unfold mR3;(try unfold Qt);(try unfold mE);(try unfold mD);(try unfold mB);unfold Bn Tryz.f15;dsimp only[Option.getD]
 go_wp2_with (go_at_call 32;refine(hp _).mono ?_;rintro e w1 ⟨rfl,rfl⟩)
 show HW _ _ _ _ _
 refine .seq (.seq (.Ew ?_))
 cases h1:(FloatKind.f32.format.order ex 1090519040 == some .gt)with
 | true =>
   unfold mR4;(try unfold Qt);(try unfold mE);(try unfold mD);(try unfold mB);unfold Bn Tryz.f15;dsimp only[Option.getD]
   go_wp2
   show HW _ _ _ _ _
   refine .cond (t:=true) rfl (.seq (.Ew ?_))
   unfold mR5;(try unfold Qt);(try unfold mE);(try unfold mD);(try unfold mB);unfold Bn Tryz.f15;dsimp only[Option.getD]
   go_wp2
   exact .stop ⟨w.heap.size,_,rfl,rfl,rfl,rfl,Ap0 _,by rw[Ap8 (by simp)];exact Va w⟩
 | false =>
   rw[h1,Bool.false_or]at hf;unfold mR4;(try unfold Qt);(try unfold mE);(try unfold mD);(try unfold mB);unfold Bn Tryz.f15;dsimp only[Option.getD]
   go_wp2
   show HW _ _ _ _ _
   refine .cond (t:=true) rfl (.seq (.Ew ?_))
   unfold mR5;(try unfold Qt);(try unfold mE);(try unfold mD);(try unfold mB);unfold Bn Tryz.f15;dsimp only[Option.getD]
   go_wp2
   exact .stop ⟨w.heap.size,_,rfl,rfl,rfl,rfl,Ap0 _,by rw[Ap8 (by simp)];exact Va w⟩
theorem Afb {ex ey:Nat}(hn:n<=8)(h:∀W,Calls Vp.prog 31 #[.complex .f32 cx cy,.int .i64 d,.int .i64 n] W fun e w'=>e=.returned (.bool true)/\W=w')(hp:∀W,Calls Vp.prog 32 #[.complex .f32 cx cy,.int .i64 d,.int .i64 n,.int .i64 n] W fun e w'=>e=.returned (.complex .f32 ex ey)/\W=w')
 (hf1:(FloatKind.f32.format.order ex 1090519040 == some .gt)=false) (hf2:(FloatKind.f32.format.order ey 1090519040 == some .gt)=false) (y4 y5 y6 y7 y8 y9 y10 y11 y12 y13 y14 y15 y16 y17 y18 y19 y20 y21 y22 y23 y24 y25 y26 y27 y28 y29 y30 y31 y32 y33 y34 y35 y36 y37 y38 y39 y40 y41 y42 y43 y44 y45 y46 y47 y48 y49 y50 y51 y52 y53 y54 y55 y56 y57 y58 y59 y60 y61 y62 y63 y64 y65 y66 y67 y68 y69 y70:Value) (w:World) :
 HW Vp.prog [.code (cut [9,10,12] Bn)] (A0x cx cy d n A4 w) ⟨#[(.complex .f32 cx cy),(.int .i64 d),(.int .i64 n),(.int .i64 A4),y4,y5,y6,y7,y8,y9,y10,y11,y12,y13,y14,y15,y16,y17,y18,y19,y20,y21,y22,y23,y24,y25,y26,y27,y28,y29,y30,y31,y32,y33,y34,y35,y36,y37,y38,y39,y40,y41,y42,y43,y44,y45,y46,y47,y48,y49,y50,y51,y52,y53,y54,y55,y56,y57,y58,y59,y60,y61,y62,y63,y64,y65,y66,y67,y68,y69,y70],[]⟩ w:=by
 obtain⟨iF,hiF,hzF0,hzF1,hzF2⟩:=Aqz Xb;obtain⟨iI,hiI,hzI0,hzI1,hzI2⟩:=Aqz Qn;have hnn:n*n<=64:=Aqh hn hn;obtain⟨N,hN⟩:∃N,n*n=N:=⟨_,rfl⟩;rw[hN]at hnn;have hN2:((N:Nat):Int)=(n:Int)*n:=by rw[<-Apx,hN]
 obtain⟨cF,hcF,hF⟩:=Fl (P:=Vp.prog) 33 74 iF _ (Vp.Dw Tryz.underlying33) hiF hzF0 N (by omega) (by omega)
 obtain⟨cI,hcI,hI⟩:=Fl (P:=Vp.prog) 27 3 iI _ (Vp.Dw Tryz.underlying27) hiI hzI0 N (by omega) (by omega)
 rw[hzF1]at hcF;rw[hzI1]at hcI;rw[hN2]at hF hI;clear hiF hzF0 hzF1 hzF2 hiI hzI0 hzI1 hzI2 hN2;rw[Pu]
 refine .seq (.Ew ?_)
 unfold mR0;(try unfold Qt);(try unfold mE);(try unfold mD);(try unfold mB);unfold Bn Tryz.f15;dsimp only[Option.getD]
 go_wp2
 show HW _ _ _ _ _
 refine .seq (.seq (.Ew ?_))
 unfold mR1;(try unfold Qt);(try unfold mE);(try unfold mD);(try unfold mB);unfold Bn Tryz.f15;dsimp only[Option.getD]
 go_wp2_with (go_at_call 31;refine(h _).mono ?_;rintro e w1 ⟨rfl,rfl⟩)
 show HW _ _ _ _ _
 refine .cond (t:=false) rfl (.skip (.seq (.Ew ?_)))
 unfold mR3;(try unfold Qt);(try unfold mE);(try unfold mD);(try unfold mB);unfold Bn Tryz.f15;dsimp only[Option.getD]
 go_wp2_with (go_at_call 32;refine(hp _).mono ?_;rintro e w1 ⟨rfl,rfl⟩)
 show HW _ _ _ _ _
 refine .seq (.seq (.Ew ?_))
 unfold mR4;(try unfold Qt);(try unfold mE);(try unfold mD);(try unfold mB);unfold Bn Tryz.f15;dsimp only[Option.getD]
 go_wp2
 show HW _ _ _ _ _
 refine .cond (t:=false) rfl (.skip (.seq (.Ew ?_)))
 unfold mR6;(try unfold Qt);(try unfold mE);(try unfold mD);(try unfold mB);unfold Bn Tryz.f15;dsimp only[Option.getD]
 go_wp2
 show HW _ _ _ _ _
 refine .seq (.Ew ?_)
 unfold mR7;(try unfold Qt);(try unfold mE);(try unfold mD);(try unfold mB);unfold Bn Tryz.f15;dsimp only[Option.getD]
 go_wp2
 show HW _ _ _ _ _
 refine .seq (.Ew ?_)
 unfold mR8;(try unfold Qt);(try unfold mE);(try unfold mD);(try unfold mB);unfold Bn Tryz.f15;dsimp only[Option.getD]
 go_wp2
 show HW _ _ _ _ _
 clear hF hI;subst hN
 exact .seq (.stop ⟨w.heap.size,w.heap.size+1,w.heap.size+1+1,w.heap.size+1+1+1,rfl,rfl,rfl,rfl,rfl,rfl,rfl,rfl,rfl,TX.start w cx cy d n hcF hcI (by unfold maxLen;omega)⟩)
def H12 (cx cy d n rb ob:Nat)(ch:Value)(gs gm N:Nat)(xs:List Nat)(ys:List Int)(w:World)(t:List Item)(a:Act)(W:World):Prop :=
 t=[.code (.refuse "12"), .code mZ,.inLoop mY,.inBlock 0,.code (.seq A5c .ret)]/\MA rb ob ch a/\TX w rb ob cx cy d n (n*n) N N gs gm xs ys W
theorem Ac0 {rb ob gs gm N:Nat}{ch:Value}{xs:List Nat}{ys:List Int}{a:Act}{w W:World}(hs:a.tmps.size=71)(h8:a.tmps[8]?=some (.pointer (some ⟨rb,0,none⟩)))(h11:a.tmps[11]?=some (.pointer (some ⟨ob,0,none⟩)))(h12:a.tmps[12]?=some ch)(hd:a.defers=[])
 (T:TX w rb ob cx cy d n (n*n) N N gs gm xs ys W):HW Vp.prog [.code mF] (H12 cx cy d n rb ob ch gs gm N xs ys w) a W:=by
 obtain⟨t,ds⟩:=a;dsimp only at hs h8 h11 h12 hd;obtain⟨y0,y1,y2,y3,y4,y5,y6,y7,y8,y9,y10,y11,y12,y13,y14,y15,y16,y17,y18,y19,y20,y21,y22,y23,y24,y25,y26,y27,y28,y29,y30,y31,y32,y33,y34,y35,y36,y37,y38,y39,y40,y41,y42,y43,y44,y45,y46,y47,y48,y49,y50,y51,y52,y53,y54,y55,y56,y57,y58,y59,y60,y61,y62,y63,y64,y65,y66,y67,y68,y69,y70,rfl⟩:=Wm t hs
 cases h8;cases h11;cases h12;subst hd
 unfold mF
 refine .seq (.seq (.Ew ?_))
 unfold Akn;(try unfold Qt);(try unfold mE);(try unfold mD);(try unfold mB);unfold Bn Tryz.f15;dsimp only[Option.getD]
 go_wp2
 show HW _ _ _ _ _
 refine .block (.loop ?_)
 have hY:Item.code mY=Item.code (.seq (.refuse "12") mZ):=rfl;rw[hY]
 exact .seq (.stop ⟨rfl,⟨rfl,rfl,rfl,rfl,rfl,rfl⟩,T⟩)
theorem Afc {rb ob gs gm N sb mb:Nat}{ch:Value}{xs zs:List Nat}{ys us:List Int}{a:Act}{w W:World}(hn:n<=8)(hN:N+n<=n*n)(h:MA rb ob ch a)(h55:a.tmps[55]?=some (.tuple #[.agg #[.slice (some ⟨sb,0,none⟩) n n,.slice (some ⟨mb,0,none⟩) n n],.bool true]))(h56:a.tmps[56]?=some (.bool true))
 (T:TX w rb ob cx cy d n (n*n) N N gs gm xs ys W) (hz:zs.length=n) (hu:us.length=n) {fz fu:Nat×Nat} (hsb:W.heap[sb]?=some (.cells (zs.map Dd).toArray 74 fz)) (hmb:W.heap[mb]?=some (.cells (us.map Ax).toArray 3 fu)) (hso:sb≠gs/\sb≠ob) (hmo:mb≠gs/\mb≠gm/\mb≠ob) :
 HW Vp.prog [.code mZ,.inLoop mY,.inBlock 0,.code (.seq A5c .ret)] (H12 cx cy d n rb ob ch gs gm (N+n) (xs++zs) (ys++us) w) a W:=by
 obtain⟨iF,hiF,hzF0,hzF1,hzF2⟩:=Aqz Xb;obtain⟨iI,hiI,hzI0,hzI1,hzI2⟩:=Aqz Qn;obtain⟨t,ds⟩:=a;obtain⟨hs,h8,h11,h12,h54,hd⟩:=h;dsimp only at hs h8 h11 h12 h54 hd h55 h56;obtain⟨y0,y1,y2,y3,y4,y5,y6,y7,y8,y9,y10,y11,y12,y13,y14,y15,y16,y17,y18,y19,y20,y21,y22,y23,y24,y25,y26,y27,y28,y29,y30,y31,y32,y33,y34,y35,y36,y37,y38,y39,y40,y41,y42,y43,y44,y45,y46,y47,y48,y49,y50,y51,y52,y53,y54,y55,y56,y57,y58,y59,y60,y61,y62,y63,y64,y65,y66,y67,y68,y69,y70,rfl⟩:=Wm t hs
 cases h8;cases h11;cases h12;cases h54;cases h55;cases h56;subst hd
 have hsz:=(Aoz.1 hsb).1;have hmz:=(Aoz.1 hmb).1;have HT1:=Aoy (T.alloc (.cells #[.slice (some ⟨sb,0,none⟩) n n,.slice (some ⟨mb,0,none⟩) n n] 78));have HB1:=Aoy ((A9.new W #[.slice (some ⟨sb,0,none⟩) n n,.slice (some ⟨mb,0,none⟩) n n] 78).up (w0:=w) T.old);have hs1:(W.alloc (.cells #[.slice (some ⟨sb,0,none⟩) n n,.slice (some ⟨mb,0,none⟩) n n] 78)).heap[sb]?=some (.cells (zs.map Dd).toArray 74 fz):=by rw[Zk,Apc,Ap8 (by omega)];exact hsb
 have hm1:(W.alloc (.cells #[.slice (some ⟨sb,0,none⟩) n n,.slice (some ⟨mb,0,none⟩) n n] 78)).heap[mb]?=some (.cells (us.map Ax).toArray 3 fu):=by rw[Zk,Apc,Ap8 (by omega)];exact hmb
 have hrk:w.heap.size<=W.heap.size:=T.old.size;have hko:ob≠W.heap.size:=by have:=T.O.lt;omega
 clear T hsb hmb;have hZ:Item.code mZ=Item.code (.seq (.cond (.tmp 56) .skip (.exit 0)) (.block 1 (.seq Afi (.seq Afj Afk)))):=rfl;rw[hZ]
 refine .seq (.cond (t:=true) rfl (.skip (.block (.seq (.Ew ?_)))))
 unfold Afi;(try unfold Qt);(try unfold mE);(try unfold mD);(try unfold mB);unfold Bn Tryz.f15;dsimp only[Option.getD]
 go_wp2
 show HW _ _ _ _ _
 refine .seq (.Ew ?_)
 generalize W.alloc (.cells #[.slice (some ⟨sb,0,none⟩) n n,.slice (some ⟨mb,0,none⟩) n n] 78)=W1 at *;generalize W.heap.size=rk at *;obtain⟨-,-,-,k3,-⟩:=HT1.out.oc;have r0:=HB1.out.cell 0 _ rfl;unfold Afj;(try unfold Qt);(try unfold mE);(try unfold mD);(try unfold mB);unfold Bn Tryz.f15;dsimp only[Option.getD]
 go_wp2_with (at_builtin;refine wpList_append_own_spare _ rfl _ _ _ rfl w.heap.size 74 iF 1 (Vp.Dw Tryz.underlying33) hiF hzF1 gs N (n*n) (xs.map Dd) rfl HT1.out.S ⟨sb,0,none⟩ n n (zs.map Dd) rfl (by simp[hz]) (World.news_of_block (cs:=(zs.map Dd).toArray) (t:=74) (fr:=fz) hs1) (by intro u hu;obtain⟨x,_,rfl⟩:=Aq5.1 hu;rfl) hN ?_;intro w6 hown hgrow;obtain⟨T6,k6,f6⟩:=HT1.out.Io hown hgrow;have HT6:=Aoy T6;have HG:=Aoy hgrow;clear T6 hown hgrow)
 show HW _ _ _ _ _
 refine .Ew ?_
 have hrow:∀k,some gs=some k->w.heap.size<=k:=fun k hk=>(HT1.out.S.lt k hk).1
 have HB6:=Aoy (((HB1.out.grown HG.out (Ag HT1.out.S HB1.out.blk (by decide)) hrow).other (p:=⟨ob,3,none⟩) HT1.out.ho (Asb hko) (.slice (some ⟨gs,0,none⟩) (N+n) (n*n))))
 have hm6:(w6.setCell ⟨ob,3,none⟩ (.slice (some ⟨gs,0,none⟩) (N+n) (n*n))).heap[mb]?=some (.cells (us.map Ax).toArray 3 fu):=by
  rw[Aqv _ _ _ _ hmo.2.2,HG.out.block mb (Aoz.1 hm1).1 (fun e=>hmo.1 (Aqp e))]
  exact hm1
 clear HB1 HG hs1 hm1 HT1 k3 r0 k6 f6;generalize w6.setCell ⟨ob,3,none⟩ (.slice (some ⟨gs,0,none⟩) (N+n) (n*n))=W7 at *;obtain⟨-,-,-,-,k4⟩:=HT6.out.oc;have r1:=HB6.out.cell 1 _ rfl;unfold Afk;(try unfold Qt);(try unfold mE);(try unfold mD);(try unfold mB);unfold Bn Tryz.f15;dsimp only[Option.getD]
 go_wp2_with (at_builtin;refine wpList_append_own_spare _ rfl _ _ _ rfl w.heap.size 3 iI 1 (Vp.Dw Tryz.underlying27) hiI hzI1 gm N (n*n) (ys.map Ax) rfl HT6.out.M ⟨mb,0,none⟩ n n (us.map Ax) rfl (by simp[hu]) (World.news_of_block (cs:=(us.map Ax).toArray) (t:=3) (fr:=fu) hm6) (by intro u hu;obtain⟨x,_,rfl⟩:=Aq5.1 hu;rfl) hN ?_;intro w8 hown hgrow;obtain⟨T8,k8,f8⟩:=HT6.out.mark hown hgrow;have HT8:=Aoy T8;clear T8 hown hgrow)
 show HW _ _ _ _ _
 refine .inBlock (.inLoop ?_)
 have hY:Item.code mY=Item.code (.seq (.refuse "12") mZ):=rfl;rw[hY]
 exact .seq (.stop ⟨rfl,⟨rfl,rfl,rfl,rfl,rfl,rfl⟩,HT8.out⟩)
theorem Afa {rb ob gs gm:Nat}{ch v0:Value}{xs:List Nat}{ys:List Int}{a:Act}{w W:World}(h:MA rb ob ch a)(h55:a.tmps[55]?=some v0)(h56:a.tmps[56]?=some (.bool false))
 (T:TX w rb ob cx cy d n (n*n) (n*n) (n*n) gs gm xs ys W) :
 HW Vp.prog [.code mZ,.inLoop mY,.inBlock 0,.code (.seq A5c .ret)] (Rc cx cy d n true xs ys w) a W:=by
 obtain⟨t,ds⟩:=a;obtain⟨hs,h8,h11,h12,h54,hd⟩:=h;dsimp only at hs h8 h11 h12 h54 hd h55 h56;obtain⟨y0,y1,y2,y3,y4,y5,y6,y7,y8,y9,y10,y11,y12,y13,y14,y15,y16,y17,y18,y19,y20,y21,y22,y23,y24,y25,y26,y27,y28,y29,y30,y31,y32,y33,y34,y35,y36,y37,y38,y39,y40,y41,y42,y43,y44,y45,y46,y47,y48,y49,y50,y51,y52,y53,y54,y55,y56,y57,y58,y59,y60,y61,y62,y63,y64,y65,y66,y67,y68,y69,y70,rfl⟩:=Wm t hs
 cases h8;cases h11;cases h12;cases h54;cases h55;cases h56;subst hd
 have HT:=Aoy T;obtain⟨o0,o1,o2,o3,o4⟩:=T.oc;obtain⟨c0,c1,c2,c3,c4⟩:=T.rc;obtain⟨f0,f1,f2,f3,f4⟩:=T.R.Hk;have hne:=T.ne;have hr:=T.hr;clear T;have hZ:Item.code mZ=Item.code (.seq (.cond (.tmp 56) .skip (.exit 0)) (.block 1 (.seq Afi (.seq Afj Afk)))):=rfl;rw[hZ]
 refine .seq (.cond (t:=false) rfl (.exit (s':=[.code (.seq A5c .ret)]) rfl (.seq (.Ew ?_))))
 unfold A5c;(try unfold Qt);(try unfold mE);(try unfold mD);(try unfold mB);unfold Bn Tryz.f15;dsimp only[Option.getD]
 go_wp2
 show HW _ _ _ _ _
 refine .stop ⟨rb,_,rfl,rfl,rfl,rfl,hr,?_⟩
 rw[Apb rfl];have b0:=HT.out.R;have b1:=b0.set hr 0 (.complex .f32 cx cy);have b2:=b1.set hr 1 (.int .i64 d);have b3:=b2.set hr 2 (.int .i64 n);have b4:=b3.set hr 3 (.slice (some ⟨gs,0,none⟩) (n*n) (n*n));have b5:=b4.set hr 4 (.slice (some ⟨gm,0,none⟩) (n*n) (n*n))
 refine⟨gs,gm,b5,?_,?_⟩
 ·exact A6 (A6 (A6 (A6 (A6 HT.out.S b0.blk (by decide) _) b1.blk (by decide) _) b2.blk (by decide) _) b3.blk (by decide) _) b4.blk (by decide) _
 ·exact A6 (A6 (A6 (A6 (A6 HT.out.M b0.blk (by decide) _) b1.blk (by decide) _) b2.blk (by decide) _) b3.blk (by decide) _) b4.blk (by decide) _
end
end
namespace Lr
open Go.Conc
structure Alike (X X':Cx):Prop where
 C:X'.C=X.C
 M:X'.M=X.M
 As:X'.As=X.As
 T:X'.T=X.T
 K:X'.K=X.K
 D:X'.D=X.D
 G:X'.G=X.G
 N:X'.N=X.N
 R:X'.R=X.R
 Dn:X'.Dn=X.Dn
 L:X'.L=X.L
 Mv:X'.Mv=X.Mv
 Z:X'.Z=X.Z
 Ar:X'.Ar=X.Ar
section
variable {X X' : Cx} {B : Lk} (A : Alike X X')
include A
theorem Ee.cx {a a':Addr}(h:Ee X B a a'):Ee X' B a a':=⟨⟨h.1.1,by rw[A.D];exact h.1.2⟩,by rw[A.L];exact h.2⟩
theorem FnR.cx {f f':Fn}(h:FnR X B f f'):FnR X' B f f':=by
 cases h with
 | func f c t=>exact .func f (by rw[A.C];exact c) (by rw[A.T];exact t)
 | method n c=>exact .method n (by rw[A.M];exact c)
 | methodOf t n c=>exact .methodOf t n (by rw[A.M];exact c)
 | yield l l' c=>exact .yield l l' c
theorem VR.cx {v v':Value}(h:VR X B v v'):VR X' B v v':=by
 induction h with
 | bool b=>exact .bool b
 | int k n=>exact .int k n
 | float k n=>exact .float k n
 | complex k n m=>exact .complex k n m
 | string s=>exact .string s
 | Rk=>exact .Rk
 | ptr a=>exact .ptr (a.cx A)
 | Lz l c=>exact .Lz l c
 | slice l c a=>exact .slice l c (a.cx A)
 | A9d=>exact .A9d
 | map r=>exact .map r
 | A8n=>exact .A8n
 | chan r=>exact .chan r
 | func f hp _ hq _ ip iq=>exact .func (f.cx A) hp ip hq iq
 | nilFunc=>exact .nilFunc
 | iface t _ i=>exact .iface t i
 | nilIface=>exact .nilIface
 | agg hp _ i=>exact .agg hp i
 | tuple hp _ i=>exact .tuple hp i
theorem AR.cx {p p':Array Value}(h:AR X B p p'):AR X' B p p':=⟨h.1,fun i v v' a b=>(h.2 i v v' a b).cx A⟩
theorem PR.cx {l:Nat}{p p':Array Value}(h:PR X B l p p'):PR X' B l p p':=⟨h.1,fun i v v' g a b=>(h.2 i v v' g a b).cx A⟩
theorem Alike.known {b n:Nat}{t t':TypeId}(h:TyR X b t t' n):TyR X' b t t' n:=by unfold TyR;rw[A.L,A.Mv,A.Z,A.N];exact h
theorem TgR.cx {t t':Target}(h:TgR X B t t'):TgR X' B t t':=by
 cases h with
 | fn f p=>exact .fn (f.cx A) (p.cx A)
 | nil=>exact .nil
 | builtin b ts t cs h=>exact .builtin b ts t cs h
 | collected r=>exact .collected r
theorem Si.cx {l l':List Deferred}(h:Si X B l l'):Si X' B l l':=by
 induction h with
 | nil=>exact .nil
 | cons q a _ ih=>exact .cons (by rw[A.Dn];exact q) ⟨a.1.cx A,a.2.cx A⟩ ih
theorem Je.cx {o:Operand}(h:Je X o):Je X' o:=by
 cases o with
 | tmp t=>trivial
 | const v=>exact fun B=>(h B).cx A
 | global g=>exact(by rw[A.G];exact h:X'.G g)
 | func f=>exact(by rw[A.C,A.T];exact h:X'.C f/\¬X'.T f)
theorem Km.cx:∀{c c':Code},Km X c c'->Km X' c c'
 | .refuse _,_,h=>h.imp id fun h=>(by rw[A.R];exact h:X'.R _ _)
 | .region _ _ _,_,h=>⟨h.1,by rw[A.K];exact h.2⟩
 | .seq _ _,_,⟨a,b,h1,h2,h3⟩=>⟨a,b,h1,h2.cx,h3.cx⟩
 | .cond _ _ _,_,⟨a,b,h1,h0,h2,h3⟩=>⟨a,b,h1,h0.cx A,h2.cx,h3.cx⟩
 | .rangeFunc _ _ _ _,_,⟨a,b,h1,h0,h2,h3⟩=>⟨a,b,h1,h0.cx A,h2.cx,h3.cx⟩
 | .block _ _,_,⟨a,h1,h2⟩=>⟨a,h1,h2.cx⟩
 | .loop _,_,⟨a,h1,h2⟩=>⟨a,h1,h2.cx⟩
 | .scope _,_,⟨a,h1,h2⟩=>⟨a,h1,h2.cx⟩
 | .goto _,_,h=>h.elim
 | .skip,_,h=>h
 | .ret,_,h=>h
 | .exit _,_,h=>h
 | .label _,_,h=>h
theorem LpR.cx {l l':Loop}(h:LpR X B l l'):LpR X' B l l' :=
 ⟨h.state,h.pending,fun c e=>(h.pok c e).cx A,h.fn,h.tmps.cx A,h.params,h.assign.cx A,h.body.cx A,h.defers⟩
theorem Yr.cx {o o':Obj}(h:Yr X B o o'):Yr X' B o o':=by
 cases h with
 | cells t f a=>exact .cells t f (a.cx A)
 | chan cap cl s r tm a=>exact .chan cap cl s r tm (a.cx A)
 | number l a=>exact .number l (a.cx A)
 | stringIter s p=>exact .stringIter s p
 | loop a=>exact .loop (a.cx A)
 | A1m=>exact .A1m
 | A1o a=>exact .A1o (a.cx A)
theorem ItR.cx {i i':Item}(h:ItR X B i i'):ItR X' B i i':=by
 cases h with
 | code a=>exact .code (a.cx A)
 | inBlock i=>exact .inBlock i
 | inLoop a=>exact .inLoop (a.cx A)
 | inScope a=>exact .inScope (a.cx A)
 | inRegion o l a=>exact .inRegion o l (by rw[A.K];exact a)
 | inRangeFunc a=>exact .inRangeFunc a
 | endRangeFunc a=>exact .endRangeFunc a
 | beginRound=>exact .beginRound
theorem Sp.cx {l l':List Item}(h:Sp X B l l'):Sp X' B l l':=by
 induction h with
 | nil=>exact .nil
 | cons a _ ih=>exact .cons (a.cx A) ih
theorem EnR.cx {l l':List PanicEntry}(h:EnR X B l l'):EnR X' B l l':=by
 induction h with
 | nil=>exact .nil
 | cons r g a _ ih=>exact .cons r g (a.cx A) ih
theorem MoR.cx {l l':FrameMode}(h:MoR X B l l'):MoR X' B l l':=by
 cases h with
 | run=>exact .run
 | returning=>exact .returning
 | panicking a=>exact .panicking (a.cx A)
theorem En.cx {fr fr':Frame}(h:En X B fr fr'):En X' B fr fr' :=
 ⟨h.fn,h.tmps.cx A,h.todo.cx A,h.defers.cx A,h.mode.cx A,h.kind,h.roundOf⟩
theorem M8.cx {l l':List Frame}(h:M8 X B l l'):M8 X' B l l':=by
 induction h with
 | nil=>exact .nil
 | cons a _ ih=>exact .cons (a.cx A) ih
end
theorem Aam {X X':Cx}{B:Lk}{V W:World}(A:Alike X X')(hw:WR X B V W){s s':Nat}(hs:B s s')(hd:¬X.D s){c:Array Value}{t:TypeId}{f:Nat×Nat}(hv:V.heap[s]?=some (.cells c t f))
 (hF:∀b,X'.F b↔X.F b\/b=s):WR X' B { V with heap:=V.heap.setIfInBounds s (.cells c t (0,c.size)) } W:=by
 have hlt:=hw.Xl hs
 refine⟨hw.tape,hw.drawn,hw.os,hw.output,hw.fn,hw.inj,fun g hg=>hw.Ie g (by rw[A.G]at hg;exact hg),fun b b' x d fz=>?_,fun b b' x d fz=>?_,fun b b' x d=>?_,fun b d=>?_,fun b fz=>?_,by rw[A.N];exact hw.low,by rw[A.N];simpa using hw.nV,by rw[A.N];exact hw.nW⟩
 ·rw[A.D]at d;have hne:s≠b:=fun e=>fz ((hF b).2 (.inr e.symm))
  obtain⟨o,o',h1,h2,h3⟩:=hw.live b b' x d fun h=>fz ((hF b).2 (.inl h))
  exact⟨o,o',by simp[hne,h1],h2,h3.cx A⟩
 ·rw[A.D]at d
  by_cases e:s=b
  ·subst e;obtain rfl:=hw.fn _ _ _ x hs
   rcases hw.at hs hd with⟨c1,c',t1,t',f1,f',h1,h2,ha,_,hm⟩ |⟨_,o,o',h1,h2,_,hn,_⟩
   ·rw[hv]at h1
    cases h1
    exact⟨c,c',t,t',f',by simp[hlt],h2,by rw[A.L];exact ha.cx A,A.known hm⟩
   ·rw[hv]at h1
    cases h1
    exact absurd rfl (hn _ _ _)
  ·obtain⟨c1,c',t1,t',g,h1,h2,h3,h4⟩:=hw.Ja b b' x d (((hF b).1 fz).resolve_right fun h=>e h.symm)
   exact⟨c1,c',t1,t',g,by simp[e,h1],h2,by rw[A.L];exact h3.cx A,A.known h4⟩
 ·rw[A.D]at d;have hne:s≠b:=fun e=>hd (e▸d)
  obtain⟨⟨t1,h1⟩,h2⟩:=hw.dead b b' x d
  exact⟨⟨t1,by simp[hne,h1]⟩,h2⟩
 ·rw[A.D]at d
  simpa using hw.Wx b d
 ·rcases(hF b).1 fz with h|rfl
  ·simpa using hw.Tk b h
  ·simpa using hlt
theorem A89 {X X':Cx}{B:Lk}{V W:World}(A:Alike X X')(hw:WR X B V W){s':Nat}(hs:∀b,¬B b s'){c:Array Value}{t:TypeId}{f:Nat×Nat}(hv:W.heap[s']?=some (.cells c t f))(hc:∀v∈c,Flat X v)
 (hN:X.N<=s') (hF:∀b,X'.F b↔X.F b\/b=V.heap.size):WR X' (fun b b'=>B b b' \/(b=V.heap.size/\b'=s')) { V with heap:=V.heap.push (.cells c t (0,c.size)) } W:=by
 have hle:Le B (fun b b'=>B b b' \/(b=V.heap.size/\b'=s')):=fun b b' h=>.inl h
 have hnD:¬X.D V.heap.size:=fun h=>Aru _ (hw.Wx _ h)
 refine⟨hw.tape,hw.drawn,hw.os,hw.output,?_,?_,fun g hg=>.inl (hw.Ie g (by rw[A.G]at hg;exact hg)),fun b b' x d fz=>?_,fun b b' x d fz=>?_,fun b b' x d=>?_,fun b d=>?_,fun b fz=>?_,?_,by rw[A.N];exact Ap3 hw.nV (by simp),by rw[A.N];exact hw.nW⟩
 ·rintro b b₁ b₂ (h |⟨rfl,rfl⟩) (k |⟨e,rfl⟩)
  ·exact hw.fn b b₁ b₂ h k
  ·exact absurd (hw.Xl h) (by omega)
  ·exact absurd (hw.Xl k) (by omega)
  ·rfl
 ·rintro b₁ b₂ b' (h |⟨rfl,rfl⟩) (k |⟨rfl,e⟩)
  ·exact hw.inj b₁ b₂ b' h k
  ·exact absurd (e▸h) (hs b₁)
  ·exact absurd k (hs b₂)
  ·rfl
 ·rw[A.D]at d
  rcases x with x |⟨rfl,rfl⟩
  ·obtain⟨o,o',h1,h2,h3⟩:=hw.live b b' x d fun h=>fz ((hF b).2 (.inl h))
   exact⟨o,o',by simp[Apc,Aqm (hw.Xl x),h1],h2,(h3.mono hle).cx A⟩
  ·exact absurd ((hF _).2 (.inr rfl)) fz
 ·rw[A.D]at d
  rcases x with x |⟨rfl,rfl⟩
  ·obtain⟨c1,c',t1,t',g,h1,h2,h3,h4⟩:=hw.Ja b b' x d (((hF b).1 fz).resolve_right (Aqm (hw.Xl x)))
   exact⟨c1,c',t1,t',g,by simp[Apc,Aqm (hw.Xl x),h1],h2,by rw[A.L];exact(h3.mono hle).cx A,A.known h4⟩
  ·exact⟨c,c,t,t,f,by simp,hv,⟨Ap0 _,fun i v v' _ h1 h2=>by
    cases h1.symm.trans h2
    exact(hc v (Aq3 h1) _).cx A⟩,TyR.same (by rw[A.L];exact At5 fun h=>Aru _ (hw.Tk _ (X.lf _ h)))⟩
 ·rw[A.D]at d
  rcases x with x |⟨rfl,rfl⟩
  ·obtain⟨⟨t1,h1⟩,h2⟩:=hw.dead b b' x d
   exact⟨⟨t1,by simp[Apc,Aqm (hw.Xl x),h1]⟩,h2⟩
  ·exact absurd d hnD
 ·rw[A.D]at d;have:=hw.Wx b d;simp;omega
 ·rcases(hF b).1 fz with h|rfl
  ·have:=hw.Tk b h;simp;omega
  ·simp
 ·rw[A.N];rintro b b' (h |⟨rfl,rfl⟩)
  ·exact hw.low b b' h
  ·have:=hw.nV
   omega
end Lr
namespace Co
open Go.Conc Tl Lr Bar
section
variable {X : Cx} {P P' : Program}
theorem A4l (H:Whole X P P')(hT:∀f,¬X.T f){F:St->Prop}(hF:∀x τ d,JL X x->F x->F (x.at τ d)){m:Bool}{base:List Frame}{x:St}{B:Lk}{W:World}{fr':Frame}{cs':List Frame}
 (hw:WR X B x.V W) (hf:En X B x.fr fr') (hc:M8 X B x.cs cs') (hb:Hn x.fr x.cs=none)
 (hr:∀τ d,∃z n,F z/\runN P n (lone x.fr (x.cs++[wall P]) { x.V with tape:=τ,drawn:=d })=.next (lone z.fr (z.cs++[wall P]) z.V)) :
 Co P' m base (L5 X B) (N7 X x.V.heap.size W.heap.size B F) (Gf X B) fr' cs' W:=by
 have K:=A2j H hT hF;have hj:JL X x:=⟨B,W,fr',cs',hw,hf,hc,hb⟩
 have hC:C P F x:=fun τ d=>by
  obtain⟨z,n,hz,hn⟩:=hr τ d
  exact Yb K hz n (x.at τ d) (K.tape _ τ d hj) hn
 exact A8p H hT (bar K hj hC) (τ:=x.V.tape) (d:=x.V.drawn) hw hf hc hb (Gr.refl _ _ _) (Ap0 _) (Ap0 _) rfl
end
end Co
namespace Co
open Go.Conc Tl Lr Bar
open Go.ConcN (sumTo upd sumTo_upd upd_ne upd_same)
structure Left (L:Nat->Prop)(w:World)(L':Nat->Prop)(w':World):Prop where
 old:∀b,L b->L' b
 new:∀b,L' b->L b\/w.heap.size<=b
 size:w.heap.size<=w'.heap.size
 kept:∀b,b<w.heap.size->¬L b->w'.heap[b]?=w.heap[b]?
 tape:w'.tape=w.tape
 os:w'.os=w.os/\w'.output=w.output
theorem Left.refl (L:Nat->Prop)(w:World):Left L w L w:=⟨fun _ h=>h,fun _ h=>.inl h,Ap0 _,fun _ _ _=>rfl,rfl,rfl,rfl⟩
theorem Left.trans {L L1 L2:Nat->Prop}{w w1 w2:World}(h:Left L w L1 w1)(k:Left L1 w1 L2 w2):Left L w L2 w2 where
 old b x:=k.old b (h.old b x)
 new b x:=by
  rcases k.new b x with y|y
  ·exact h.new b y
  ·exact .inr (Ap3 h.size y)
 size:=Ap3 h.size k.size
 kept b hb hl:=by
  rw[k.kept b (Ap6 hb h.size) fun x=>(h.new b x).elim hl fun y=>by omega]
  exact h.kept b hb hl
 tape:=k.tape.trans h.tape
 os:=⟨k.os.1.trans h.os.1,k.os.2.trans h.os.2⟩
theorem Did.left {L R L1:Nat->Prop}{w w1:World}{n:Array Event}(h:Did L R w L1 w1 n):Left L w L1 w1:=⟨h.old,h.new,h.size,h.kept,h.tape,h.os⟩
theorem left_at (L:Nat->Prop)(w:World)(d:Nat):Left L w L (w.at d):=⟨fun _ h=>h,fun _ h=>.inl h,Ap0 _,fun _ _ _=>rfl,rfl,rfl,rfl⟩
theorem Am {L R:Nat->Prop}{W w:World}(h:Bw L R W w)(d:Nat):Bw L R W (w.at d):=h
theorem C3 (L R:Nat->Prop)(W:World):Bw L R W W:=⟨Ap0 _,fun _ _=>rfl,rfl,rfl⟩
theorem Og {L R:Nat->Prop}{B:Nat}{e:Event}(h:EvC L R e)(hL:∀b,L b->b<B)(hR:∀b,R b->b<B):EvL (fun _=>False) B e:=by
 obtain⟨loc,wr,sy⟩:=e;unfold EvC at h
 refine⟨fun x _ hs=>hs.elim,?_,?_,?_⟩<;>(cases loc<;>dsimp only at h)<;>first
  |(intro e;cases e;done)
  | exact h.elim
  |(subst h;intro e;cases e;done)
  | skip
 ·rcases h.2 with h|h
  ·exact hL _ h
  ·exact hR _ h.1
 ·have:=hL _ h
  cases wr<;>cases sy<;>exact this
 ·subst h;trivial
end Co
namespace Co
open Go.Conc
def Gt (S:Nat->Prop):Loc->Prop
 | .cell a=>S a.block
 | .obj r=>S r
 | _=>False
theorem Tp {S S':Nat->Prop}(h:∀b,S b->S' b){l:Loc}(k:Gt S l):Gt S' l:=by
 cases l<;>first|exact h _ k|exact k.elim
structure Ve (t:Trace)(g:Nat)(L R:Nat->Prop):Prop where
 own:∀i a,touchAt t i=some a->Gt L a.loc->Knows t g i
 read:∀i a,touchAt t i=some a->Gt R a.loc->a.write=true->Knows t g i
theorem Md {L R:Nat->Prop}{e:Event}(h:EvC L R e){b:Touch}(hb:(MemAct.ofEvent e).touch?=some b):Gt L b.loc \/(Gt R b.loc/\b.write=false):=by
 obtain⟨loc,wr,sy⟩:=e;unfold EvC at h
 cases loc with
 | cell a =>
   dsimp only at h;obtain⟨rfl,h⟩:=h
   cases hb
   rcases h with h |⟨h,h2⟩
   ·exact .inl h
   ·exact .inr ⟨h,h2⟩
 | obj r =>
   dsimp only at h
   cases wr<;>cases sy<;>first |(cases hb;done) |(cases hb;exact .inl h)
 | mark m =>
   dsimp only at h;subst h
   cases hb
 | _=>exact h.elim
section
variable {t : Trace} {g : Nat} {L R : Nat -> Prop} {fn : FuncId} {pos : String} {es : Array Event}
theorem Cc {u:Trace}{i:Nat}{a:Touch}(h:touchAt (t++u) i=some a):touchAt t i=some a\/∃op∈u,(t++u)[i]?=some op/\op.act.touch?=some a:=by
 obtain⟨x,hx,hxa⟩:=touch_of h
 rcases getElem?_append_cases hx with⟨hi,hx'⟩ |⟨_,hxu⟩
 ·exact .inl (by rw[touchAt_of hx'];exact hxa)
 ·exact .inr ⟨x,hxu,hx,hxa⟩
theorem Ve.noRace (h:Ve t g L R)(hc:∀said,¬Race said t)(he:∀e∈es,EvC L R e):∀said,¬Race said (t++MemOp.ofEvents g fn pos es):=by
 intro said
 refine noRace_append (hc said) (fun op hop=>by obtain⟨e,_,rfl⟩:=Go.Conc.mem_ofEvents hop;rfl) fun i a ha op hop b hb hcf=>?_
 obtain⟨e,hee,rfl⟩:=Go.Conc.mem_ofEvents hop;obtain⟨h1,_,h3,_⟩:=hcf
 rcases Md (he e hee) hb with k |⟨k,hw⟩
 ·exact h.own i a ha (by rw[h1];exact k)
 ·exact h.read i a ha (by rw[h1];exact k) (by rcases h3 with h3|h3;exact h3;rw[hw]at h3;cases h3)
theorem Ve.self (h:Ve t g L R):Ve (t++MemOp.ofEvents g fn pos es) g L R:=by
 have key:∀op∈MemOp.ofEvents g fn pos es,op.g=g:=fun op hop=>by obtain⟨e,_,rfl⟩:=Go.Conc.mem_ofEvents hop;rfl
 refine⟨fun i a ha hl=>?_,fun i a ha hl hw=>?_⟩
 ·rcases Cc ha with h1 |⟨op,h1,h2,h3⟩
  ·exact(h.own i a h1 hl).app _
  ·have:=knows_own h2
   rwa [key op h1]at this
 ·rcases Cc ha with h1 |⟨op,h1,h2,h3⟩
  ·exact(h.read i a h1 hl hw).app _
  ·have:=knows_own h2
   rwa [key op h1]at this
theorem Ve.other {g':Nat}{L' R':Nat->Prop}(h:Ve t g L R)(he:∀e∈es,EvC L' R' e)(h1:∀b,L' b->¬L b/\¬R b)(h2:∀b,R' b->¬L b):Ve (t++MemOp.ofEvents g' fn pos es) g L R:=by
 have ap:∀{S S':Nat->Prop} {l:Loc},(∀b,S b->¬S' b)->Gt S l->¬Gt S' l:=by
  intro S S' l k x y
  cases l<;>first|exact k _ x y|exact x
 refine⟨fun i a ha hl=>?_,fun i a ha hl hw=>?_⟩
 ·rcases Cc ha with h3 |⟨op,h3,_,h4⟩
  ·exact(h.own i a h3 hl).app _
  ·obtain⟨e,hee,rfl⟩:=Go.Conc.mem_ofEvents h3
   rcases Md (he e hee) h4 with k |⟨k,_⟩
   ·exact absurd hl (ap (fun b x=>(h1 b x).1) k)
   ·exact absurd hl (ap h2 k)
 ·rcases Cc ha with h3 |⟨op,h3,_,h4⟩
  ·exact(h.read i a h3 hl hw).app _
  ·obtain⟨e,hee,rfl⟩:=Go.Conc.mem_ofEvents h3
   rcases Md (he e hee) h4 with k |⟨k,hw'⟩
   ·exact absurd hl (ap (fun b x=>(h1 b x).2) k)
   ·rw[hw']at hw;cases hw
theorem Ve.app {u:Trace}(h:Ve t g L R)(hu:∀op∈u,op.act.touch?=none):Ve (t++u) g L R:=by
 refine⟨fun i a ha hl=>?_,fun i a ha hl hw=>?_⟩
 ·rcases Cc ha with h3 |⟨op,h3,_,h4⟩
  ·exact(h.own i a h3 hl).app _
  ·rw[hu op h3]at h4;cases h4
 ·rcases Cc ha with h3 |⟨op,h3,_,h4⟩
  ·exact(h.read i a h3 hl hw).app _
  ·rw[hu op h3]at h4;cases h4
theorem Ve.fresh {B:Nat}{L1:Nat->Prop}(h:Ve t g L R)(hs:∀op∈t,op.act.low B)(hl:∀b,L1 b->L b\/B<=b):Ve t g L1 R:=by
 refine⟨fun i a ha hla=>?_,h.read⟩
 obtain⟨x,hx,hxa⟩:=touch_of ha;have hlow:=hs x (Aq3 hx)
 have:Gt L a.loc:=by
  obtain⟨loc,wr,kd⟩:=a
  have hlo:loc.low B:=by
   generalize x.act=act at hlow hxa
   cases act with
   | access e=>cases hxa;exact hlow
   | mark m=>cases m<;>first |(cases hxa;done) |(cases hxa;exact hlow)
   | _=>cases hxa
  cases loc with
  | cell c=>exact(hl _ hla).resolve_right fun x=>by have:c.block<B:=hlo;omega
  | obj r=>exact(hl _ hla).resolve_right fun x=>by have:r<B:=hlo;omega
  | _=>exact hla.elim
 exact h.own i a ha this
end
theorem A58 {t u:Trace}{g g' i p q:Nat}{x y:MemOp}(h:Knows t g i)(hp:t.size<=p)(hx:(t++u)[p]?=some x)(hxg:x.g=g)(hpq:HappensBefore (t++u) p q)(hy:(t++u)[q]?=some y)(hyg:y.g=g'):Knows (t++u) g' i :=
 ⟨q,y,hy,hyg,.inr ((h.hb_new hp hx hxg).trans hpq)⟩
theorem Nq {t u:Trace}{g:Nat}(hu:∀op∈u,op.act≠.mark .disable/\op.act≠.mark .enable):∀k,k<=u.size ->(t++u).deaf g (t.size+k)=Deaf t g
 | 0,_=>deaf_old (Ap0 _)
 | k+1,hk=>by
   have hlt:k<u.size:=hk
   have hy:(t++u)[t.size+k]?=some u[k]:=by
    rw[As1 (by omega)]
    simp[hlt]
   rw[<-Nat.add_assoc,deaf_succ hy,Nq hu k (by omega)]
   have:=hu u[k] (Array.getElem_mem hlt);unfold deafStep
   split
   ·exact absurd ‹_› this.1
   ·exact absurd ‹_› this.2
   ·rfl
theorem Gi (t:Trace)(g:Nat)(u:Trace)(hu:∀op∈u,op.act≠.mark .disable/\op.act≠.mark .enable):Deaf (t++u) g=Deaf t g:=by
 have:=Nq (t:=t) (g:=g) hu u.size (Ap0 _);unfold Deaf at *;rw[Array.size_append]
 exact this
theorem Iv {t u:Trace}(hu:∀op∈u,op.act≠.mark .disable/\op.act≠.mark .enable){k:Nat}{x:MemOp}(hk:u[k]?=some x)(hd:Deaf t x.g=0):(t++u).heard (t.size+k):=by
 have hlt:=(Aoz.1 hk).1
 refine⟨x.g,?_,?_⟩
 ·unfold Trace.g?;rw[As1 (by omega)]
  simp[hk]
 ·rw[Nq hu k (by omega)]
  exact hd
theorem A4w {t:Trace}{c k cap gS gR:Nat}{f1 f2 f3 f4:FuncId}{p1 p2 p3 p4:String}(hS:Deaf t gS=0)(hR:Deaf t gR=0){i:Nat}(h:Knows t gS i) :
 Knows (t ++#[{ g:=gS,fn:=f1,pos:=p1,act:=.send c k },{ g:=gR,fn:=f2,pos:=p2,act:=.recv c k cap },{ g:=gS,fn:=f3,pos:=p3,act:=.sendDone c k },{ g:=gR,fn:=f4,pos:=p4,act:=.recvDone c k }]) gR i:=by
 generalize hu:(#[{ g:=gS,fn:=f1,pos:=p1,act:=.send c k },{ g:=gR,fn:=f2,pos:=p2,act:=.recv c k cap },{ g:=gS,fn:=f3,pos:=p3,act:=.sendDone c k },{ g:=gR,fn:=f4,pos:=p4,act:=.recvDone c k }]:Trace)=u
 have hq:∀op∈u,op.act≠.mark .disable/\op.act≠.mark .enable:=by
  intro op hop;rw[<-hu]at hop;simp only[Aqd,Aqe,Aqc,As6]at hop
  rcases hop with rfl|rfl|rfl|rfl<;>exact⟨by simp,by simp⟩
 have h0:u[0]?=some { g:=gS,fn:=f1,pos:=p1,act:=.send c k }:=by rw[<-hu];rfl
 have h3:u[3]?=some { g:=gR,fn:=f4,pos:=p4,act:=.recvDone c k }:=by rw[<-hu];rfl
 have g0:(t++u)[t.size+0]?=some { g:=gS,fn:=f1,pos:=p1,act:=.send c k }:=by
  rw[As1 (by omega)];simpa using h0
 have g3:(t++u)[t.size+3]?=some { g:=gR,fn:=f4,pos:=p4,act:=.recvDone c k }:=by
  rw[As1 (by omega)];simpa using h3
 refine A58 h (Ap0 _) g0 rfl (.single (.inr ⟨.handOver (c:=c) (k:=k) ?_ ?_,Iv hq h0 hS,Iv hq h3 hR⟩)) g3 rfl
 ·unfold Trace.act?;rw[Asf]at g0;rw[g0];rfl
 ·unfold Trace.act?;rw[g3];rfl
theorem A1d {t:Trace}{c p gR:Nat}{x:MemOp}{f1:FuncId}{p1:String}(hp:t[p]?=some x)(hx:x.act=.close c)(hh:t.heard p)(hR:Deaf t gR=0){i:Nat}(h:Before t i p) :
 Knows (t ++#[{ g:=gR,fn:=f1,pos:=p1,act:=.recvClosed c }]) gR i:=by
 generalize hu:(#[{ g:=gR,fn:=f1,pos:=p1,act:=.recvClosed c }]:Trace)=u
 have hq:∀op∈u,op.act≠.mark .disable/\op.act≠.mark .enable:=by
  intro op hop;rw[<-hu]at hop;simp only[Aqd,Aqe,Aqc,As6]at hop;subst hop
  exact⟨by simp,by simp⟩
 have h0:u[0]?=some { g:=gR,fn:=f1,pos:=p1,act:=.recvClosed c }:=by rw[<-hu];rfl
 have g0:(t++u)[t.size+0]?=some { g:=gR,fn:=f1,pos:=p1,act:=.recvClosed c }:=by
  rw[As1 (by omega)];simpa using h0
 have hlt:=lt_size_of_getElem? hp;have gp:(t++u)[p]?=some x:=by rw[getElem?_append_old hlt];exact hp
 refine⟨t.size+0,_,g0,rfl,(h.app u).trans (.inr (.single (.inr ⟨.closed (c:=c) ?_ ?_,(heard_old hlt).2 hh,Iv hq h0 hR⟩)))⟩
 ·unfold Trace.act?;rw[gp,Ary,hx]
 ·unfold Trace.act?;rw[g0];rfl
end Co
end Go.Proofs.YtlfleicchbgcmaaGreat
