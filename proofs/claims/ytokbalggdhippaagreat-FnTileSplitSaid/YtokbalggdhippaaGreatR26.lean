/- Merged texts: WhP, Cut, PhC, Sen. -/
import Derived.Test.YtokbalggdhippaaGreatR25
import Derived.Test.YtokbalggdhippaaGreatR3
import Derived.ProofKit
import Derived.Test.YtokbalggdhippaaGreatR15
set_option linter.all false
section
namespace Go.Proofs.YtokbalggdhippaaGreat.Ok
open Go.Conc Go.Proofs.YtokbalggdhippaaGreat.Lr
theorem zeros:zerosOk Vp.prog=true:=by kernel_rfl
def phs:List Nat:=[33,34,58,59,60,61,62,85,86,87,88,89,90,107,108,109,110,111,112,113,114,115,116,117,118,119,120,121,135,136,137,138,139,140,141,142,143,144,145,146,153,154,155,156,157,158,160,161,162,163]
def ext:List Nat:=[107,160,161,162]
theorem ext0 (tl:List (Nat × Nat)) (cl gl:List Nat):FnOk Vp.prog tl cl gl 107:=ext_ok (fn:=Tryz.f107) (by kernel_rfl) (by kernel_rfl) (by kernel_rfl) (by kernel_rfl) (e:=Extern.MathFloor.toIntegral "math.archFloor" .down) (by kernel_rfl) (.inl ⟨_,_,rfl⟩)
theorem ext1 (tl:List (Nat × Nat)) (cl gl:List Nat):FnOk Vp.prog tl cl gl 160:=ext_ok (fn:=Tryz.f160) (by kernel_rfl) (by kernel_rfl) (by kernel_rfl) (by kernel_rfl) (e:=Extern.MathFloatBits.float64frombits) (by kernel_rfl) (.inr (.inr rfl))
theorem ext2 (tl:List (Nat × Nat)) (cl gl:List Nat):FnOk Vp.prog tl cl gl 161:=ext_ok (fn:=Tryz.f161) (by kernel_rfl) (by kernel_rfl) (by kernel_rfl) (by kernel_rfl) (e:=Extern.MathFloatBits.float64bits) (by kernel_rfl) (.inr (.inl rfl))
theorem ext3 (tl:List (Nat × Nat)) (cl gl:List Nat):FnOk Vp.prog tl cl gl 162:=ext_ok (fn:=Tryz.f162) (by kernel_rfl) (by kernel_rfl) (by kernel_rfl) (by kernel_rfl) (e:=Extern.MathFloor.toIntegral "math.archTrunc" .zero) (by kernel_rfl) (.inl ⟨_,_,rfl⟩)
theorem all_ok {tl:List (Nat × Nat)} {cl gl:List Nat} (h:(cl.filter fun f => !(ext.contains f)).all (chk Vp.prog tl cl gl)=true):∀ f ∈ cl,FnOk Vp.prog tl cl gl f:=by
 intro f hf
 by_cases hx:ext.contains f=true
 · have hx:f ∈ ext:=by simpa using hx
   simp only [ext,List.mem_cons,List.not_mem_nil,or_false] at hx
   rcases hx with rfl | rfl | rfl | rfl
   · exact ext0 _ _ _
   · exact ext1 _ _ _
   · exact ext2 _ _ _
   · exact ext3 _ _ _
 · refine fnOk_of ?_
   rw [List.all_eq_true] at h
   exact h f (List.mem_filter.2 ⟨hf,by simpa using hx⟩)
set_option maxRecDepth 100000 in
theorem chks:(phs.filter fun f => !(ext.contains f)).all (chk Vp.prog [] phs [])=true:=by kernel_rfl
theorem tm_same:∀ f:Nat,Tryz.prog.funcs[f]?=Vp.prog.funcs[f]? ∨ ∃ fn fn':Func,Vp.prog.funcs[f]?=some fn ∧ Tryz.prog.funcs[f]?=some fn' ∧ fn'.name=fn.name ∧ fn'.results=fn.results:=by
 intro f
 by_cases h:f=11
 · subst h
   exact .inr ⟨Vp.fT,Tryz.f11,Vp.funcT,Tryz.func11,by kernel_rfl,by kernel_rfl⟩
 · exact .inl (Vp.same h).symm
theorem whole (Q:String → Code → Prop) (D F:Nat → Prop):Whole (cx Vp.prog phs [] Q D F) Vp.prog Tryz.prog :=
 whole_of zeros Vp.tab.symm Vp.size.symm (fun f hf => by
   have ht:f ≠ 11:=fun e => by subst e; revert hf; decide
   exact ⟨all_ok chks f hf,(Vp.same ht).symm⟩) tm_same (fun g h => by cases h)
end Go.Proofs.YtokbalggdhippaaGreat.Ok
end

section
namespace Go.Proofs.YtokbalggdhippaaGreat.Ok
open Go.Conc Go.Proofs.YtokbalggdhippaaGreat.Lr
def tagOf:Nat → String
 | 0 => "0"
 | 9 => "9"
 | 10 => "10"
 | 12 => "12"
 | 13 => "13"
 | _ => ""
def cut (ids:List Nat):Code → Code
 | .region id ops d => if ids.contains id then .refuse (tagOf id) else .region id ops d
 | .seq a b => .seq (cut ids a) (cut ids b)
 | .cond c a b => .cond c (cut ids a) (cut ids b)
 | .rangeFunc f p a b => .rangeFunc f p (cut ids a) (cut ids b)
 | .block i c => .block i (cut ids c)
 | .loop c => .loop (cut ids c)
 | .scope c => .scope (cut ids c)
 | .refuse w => .refuse w
 | .goto l => .goto l
 | .skip => .skip
 | .ret => .ret
 | .exit i => .exit i
 | .label l => .label l
def regs:Code → List (Nat × Array Oper × Bool)
 | .region id ops d => [(id,ops,d)]
 | .seq a b => regs a ++ regs b
 | .cond _ a b => regs a ++ regs b
 | .rangeFunc _ _ a b => regs a ++ regs b
 | .block _ c => regs c
 | .loop c => regs c
 | .scope c => regs c
 | _ => []
def okCut (P:Program) (cl gl ids:List Nat):Code → Bool
 | .region id ops d => ids.contains id || okC P cl gl (.region id ops d)
 | .seq a b => okCut P cl gl ids a && okCut P cl gl ids b
 | .cond c a b => okOpd cl gl c && (okCut P cl gl ids a && okCut P cl gl ids b)
 | .rangeFunc f _ a b => okOpd cl gl f && (okCut P cl gl ids a && okCut P cl gl ids b)
 | .block _ c | .loop c | .scope c => okCut P cl gl ids c
 | .goto _ | .refuse _ => false
 | .skip | .ret | .exit _ | .label _ => true
theorem cut_of {X:Cx} {P:Program} {cl gl:List Nat} (hc:∀ f ∈ cl,X.C f ∧ ¬ X.T f) (hg:∀ g ∈ gl,X.G g) (hK:∀ o,okOper P cl gl o=true → X.K o) (ids:List Nat):∀ (c:Code),(∀ r ∈ regs c,ids.contains r.1=true → X.R (tagOf r.1) (.region r.1 r.2.1 r.2.2)) → okCut P cl gl ids c=true → CdR X (cut ids c) c
 | .refuse _,_,h => by simp [okCut] at h
 | .region id ops d,hR,h => by
   unfold cut
   unfold okCut at h
   by_cases hn:ids.contains id=true
   · rw [if_pos hn]
     exact .inr (hR (id,ops,d) (by simp [regs]) hn)
   · rw [if_neg hn]
     rw [Bool.or_eq_true] at h
     exact code_of hc hg hK (.region id ops d) (h.resolve_left hn)
 | .seq a b,hR,h => by
   simp only [okCut,Bool.and_eq_true] at h
   exact ⟨a,b,rfl,cut_of hc hg hK ids a (fun r x => hR r (by simp [regs,x])) h.1,cut_of hc hg hK ids b (fun r x => hR r (by simp [regs,x])) h.2⟩
 | .cond c a b,hR,h => by
   simp only [okCut,Bool.and_eq_true] at h
   exact ⟨a,b,rfl,opd_of hc hg h.1,cut_of hc hg hK ids a (fun r x => hR r (by simp [regs,x])) h.2.1,cut_of hc hg hK ids b (fun r x => hR r (by simp [regs,x])) h.2.2⟩
 | .rangeFunc f p a b,hR,h => by
   simp only [okCut,Bool.and_eq_true] at h
   exact ⟨a,b,rfl,opd_of hc hg h.1,cut_of hc hg hK ids a (fun r x => hR r (by simp [regs,x])) h.2.1,cut_of hc hg hK ids b (fun r x => hR r (by simp [regs,x])) h.2.2⟩
 | .block _ c,hR,h => ⟨c,rfl,cut_of hc hg hK ids c (fun r x => hR r x) h⟩
 | .loop c,hR,h => ⟨c,rfl,cut_of hc hg hK ids c (fun r x => hR r x) h⟩
 | .scope c,hR,h => ⟨c,rfl,cut_of hc hg hK ids c (fun r x => hR r x) h⟩
 | .goto _,_,h => by simp [okCut] at h
 | .skip,_,_ => rfl
 | .ret,_,_ => rfl
 | .exit _,_,_ => rfl
 | .label _,_,_ => rfl
end Go.Proofs.YtokbalggdhippaaGreat.Ok
end

section
namespace Go.Proofs.YtokbalggdhippaaGreat.Ok
open Go.Conc Go.Proofs.YtokbalggdhippaaGreat.Lr
def bodyOf (P:Program) (f:Nat):Code:=((P.funcs[f]?).bind (·.body)).getD .skip
def cuts:List (Nat × List Nat):=[(35,[0,13]),(11,[9,10,12])]
def Cuts (P:Program) (why:String) (d:Code):Prop:=∃ k ∈ cuts,∃ r ∈ regs (bodyOf P k.1),k.2.contains r.1=true ∧ why=tagOf r.1 ∧ d=.region r.1 r.2.1 r.2.2
theorem cut_cx {P P':Program} {cl:List Nat} {D F:Nat → Prop} (ids:List Nat) (f:Nat) (hk:(f,ids) ∈ cuts) (c:Code) (hc:bodyOf P f=c) (h:okCut P' cl [] ids c=true):CdR (cx P' cl [] (Cuts P) D F) (cut ids c) c:=by
 subst hc
 exact cut_of (X:=cx P' cl [] (Cuts P) D F) (cl:=cl) (gl:=[]) cx_in (fun g h => by cases h) (fun o h => h) ids (bodyOf P f) (fun r hr hi => ⟨(f,ids),hk,r,hr,hi,rfl,rfl⟩) h
set_option maxRecDepth 100000 in
theorem cutS_ok:okCut Vp.prog phs [] [0,13] (bodyOf Tryz.prog 35)=true:=by kernel_rfl
set_option maxRecDepth 100000 in
theorem cutM_ok:okCut Vp.prog phs [] [9,10,12] (bodyOf Tryz.prog 11)=true:=by kernel_rfl
end Go.Proofs.YtokbalggdhippaaGreat.Ok
end

section
namespace Go.Proofs.YtokbalggdhippaaGreat
open Go.RowKit Go.Proofs.YtokbalggdhippaaGreat.Co Go.Proofs.YtokbalggdhippaaGreat.Ok
attribute [local go_sem ↓] Go.wp_at_zero Go.wp_at_succ
set_option maxRecDepth 100000 in
set_option maxHeartbeats 4000000 in
theorem arr61 (t:Array Value) (h:t.size=61):∃ y0 y1 y2 y3 y4 y5 y6 y7 y8 y9 y10 y11 y12 y13 y14 y15 y16 y17 y18 y19 y20 y21 y22 y23 y24 y25 y26 y27 y28 y29 y30 y31 y32 y33 y34 y35 y36 y37 y38 y39 y40 y41 y42 y43 y44 y45 y46 y47 y48 y49 y50 y51 y52 y53 y54 y55 y56 y57 y58 y59 y60:Value,t=#[y0,y1,y2,y3,y4,y5,y6,y7,y8,y9,y10,y11,y12,y13,y14,y15,y16,y17,y18,y19,y20,y21,y22,y23,y24,y25,y26,y27,y28,y29,y30,y31,y32,y33,y34,y35,y36,y37,y38,y39,y40,y41,y42,y43,y44,y45,y46,y47,y48,y49,y50,y51,y52,y53,y54,y55,y56,y57,y58,y59,y60]:=by
 obtain ⟨l⟩:=t
 simp only [List.size_toArray] at h
 rcases l with _ | ⟨y0,l⟩
 · simp at h
 rcases l with _ | ⟨y1,l⟩
 · simp at h
 rcases l with _ | ⟨y2,l⟩
 · simp at h
 rcases l with _ | ⟨y3,l⟩
 · simp at h
 rcases l with _ | ⟨y4,l⟩
 · simp at h
 rcases l with _ | ⟨y5,l⟩
 · simp at h
 rcases l with _ | ⟨y6,l⟩
 · simp at h
 rcases l with _ | ⟨y7,l⟩
 · simp at h
 rcases l with _ | ⟨y8,l⟩
 · simp at h
 rcases l with _ | ⟨y9,l⟩
 · simp at h
 rcases l with _ | ⟨y10,l⟩
 · simp at h
 rcases l with _ | ⟨y11,l⟩
 · simp at h
 rcases l with _ | ⟨y12,l⟩
 · simp at h
 rcases l with _ | ⟨y13,l⟩
 · simp at h
 rcases l with _ | ⟨y14,l⟩
 · simp at h
 rcases l with _ | ⟨y15,l⟩
 · simp at h
 rcases l with _ | ⟨y16,l⟩
 · simp at h
 rcases l with _ | ⟨y17,l⟩
 · simp at h
 rcases l with _ | ⟨y18,l⟩
 · simp at h
 rcases l with _ | ⟨y19,l⟩
 · simp at h
 rcases l with _ | ⟨y20,l⟩
 · simp at h
 rcases l with _ | ⟨y21,l⟩
 · simp at h
 rcases l with _ | ⟨y22,l⟩
 · simp at h
 rcases l with _ | ⟨y23,l⟩
 · simp at h
 rcases l with _ | ⟨y24,l⟩
 · simp at h
 rcases l with _ | ⟨y25,l⟩
 · simp at h
 rcases l with _ | ⟨y26,l⟩
 · simp at h
 rcases l with _ | ⟨y27,l⟩
 · simp at h
 rcases l with _ | ⟨y28,l⟩
 · simp at h
 rcases l with _ | ⟨y29,l⟩
 · simp at h
 rcases l with _ | ⟨y30,l⟩
 · simp at h
 rcases l with _ | ⟨y31,l⟩
 · simp at h
 rcases l with _ | ⟨y32,l⟩
 · simp at h
 rcases l with _ | ⟨y33,l⟩
 · simp at h
 rcases l with _ | ⟨y34,l⟩
 · simp at h
 rcases l with _ | ⟨y35,l⟩
 · simp at h
 rcases l with _ | ⟨y36,l⟩
 · simp at h
 rcases l with _ | ⟨y37,l⟩
 · simp at h
 rcases l with _ | ⟨y38,l⟩
 · simp at h
 rcases l with _ | ⟨y39,l⟩
 · simp at h
 rcases l with _ | ⟨y40,l⟩
 · simp at h
 rcases l with _ | ⟨y41,l⟩
 · simp at h
 rcases l with _ | ⟨y42,l⟩
 · simp at h
 rcases l with _ | ⟨y43,l⟩
 · simp at h
 rcases l with _ | ⟨y44,l⟩
 · simp at h
 rcases l with _ | ⟨y45,l⟩
 · simp at h
 rcases l with _ | ⟨y46,l⟩
 · simp at h
 rcases l with _ | ⟨y47,l⟩
 · simp at h
 rcases l with _ | ⟨y48,l⟩
 · simp at h
 rcases l with _ | ⟨y49,l⟩
 · simp at h
 rcases l with _ | ⟨y50,l⟩
 · simp at h
 rcases l with _ | ⟨y51,l⟩
 · simp at h
 rcases l with _ | ⟨y52,l⟩
 · simp at h
 rcases l with _ | ⟨y53,l⟩
 · simp at h
 rcases l with _ | ⟨y54,l⟩
 · simp at h
 rcases l with _ | ⟨y55,l⟩
 · simp at h
 rcases l with _ | ⟨y56,l⟩
 · simp at h
 rcases l with _ | ⟨y57,l⟩
 · simp at h
 rcases l with _ | ⟨y58,l⟩
 · simp at h
 rcases l with _ | ⟨y59,l⟩
 · simp at h
 rcases l with _ | ⟨y60,l⟩
 · simp at h
 rcases l with _ | ⟨y,l⟩
 · exact ⟨y0,y1,y2,y3,y4,y5,y6,y7,y8,y9,y10,y11,y12,y13,y14,y15,y16,y17,y18,y19,y20,y21,y22,y23,y24,y25,y26,y27,y28,y29,y30,y31,y32,y33,y34,y35,y36,y37,y38,y39,y40,y41,y42,y43,y44,y45,y46,y47,y48,y49,y50,y51,y52,y53,y54,y55,y56,y57,y58,y59,y60,rfl⟩
 · simp at h
noncomputable def sR0:Code:=match sBody with | .seq a _ => a | _ => .skip
noncomputable def sR1:Code:=match sBody with | .seq _ (.seq a _) => a | _ => .skip
noncomputable def sR2:Code:=match sX0 with | .seq a _ => a | _ => .skip
noncomputable def sR13:Code:=match sRow with | .seq _ (.seq _ (.seq _ a)) => a | _ => .skip
noncomputable def sR14:Code:=match sX0 with | .seq _ (.seq _ (.seq _ a)) => a | _ => .skip
noncomputable def sX:Code:=cut [0,13] sX0
theorem sBody_is:bodyOf Tryz.prog 35=sBody:=by kernel_rfl
theorem sX_eq:sX=.seq sR2 (.seq (.cond (.tmp 19) .skip (.exit 0)) (.seq (.block 1 (.seq sR3 (.seq sR4 (.seq sIn (.refuse "13"))))) sR14)):=by kernel_rfl
theorem cut_sBody:cut [0,13] sBody=.seq (.refuse "0") (.seq sR1 (.block 0 (.loop sX))):=by kernel_rfl
structure SA (ch:Value) (cx cy d n:Nat) (most:Int) (i:Nat) (a:Act):Prop where
 size:a.tmps.size=61
 t0:a.tmps[0]?=some ch
 t1:a.tmps[1]?=some (.complex .f32 cx cy)
 t2:a.tmps[2]?=some (.int .i64 d)
 t3:a.tmps[3]?=some (.int .i64 n)
 t4:a.tmps[4]?=some (.int .i64 most)
 t17:a.tmps[17]?=some (.int .i64 n)
 t18:a.tmps[18]?=some (.int .i64 i)
theorem SA.arr {ch:Value} {cx cy d n i:Nat} {most:Int} {a:Act} (h:SA ch cx cy d n most i a):∃ y5 y6 y7 y8 y9 y10 y11 y12 y13 y14 y15 y16 y19 y20 y21 y22 y23 y24 y25 y26 y27 y28 y29 y30 y31 y32 y33 y34 y35 y36 y37 y38 y39 y40 y41 y42 y43 y44 y45 y46 y47 y48 y49 y50 y51 y52 y53 y54 y55 y56 y57 y58 y59 y60:Value,a=⟨#[ch,(.complex .f32 cx cy),(.int .i64 d),(.int .i64 n),(.int .i64 most),y5,y6,y7,y8,y9,y10,y11,y12,y13,y14,y15,y16,(.int .i64 n),(.int .i64 i),y19,y20,y21,y22,y23,y24,y25,y26,y27,y28,y29,y30,y31,y32,y33,y34,y35,y36,y37,y38,y39,y40,y41,y42,y43,y44,y45,y46,y47,y48,y49,y50,y51,y52,y53,y54,y55,y56,y57,y58,y59,y60],a.defers⟩:=by
 obtain ⟨t,ds⟩:=a
 obtain ⟨y0,y1,y2,y3,y4,y5,y6,y7,y8,y9,y10,y11,y12,y13,y14,y15,y16,y17,y18,y19,y20,y21,y22,y23,y24,y25,y26,y27,y28,y29,y30,y31,y32,y33,y34,y35,y36,y37,y38,y39,y40,y41,y42,y43,y44,y45,y46,y47,y48,y49,y50,y51,y52,y53,y54,y55,y56,y57,y58,y59,y60,rfl⟩:=arr61 t h.size
 obtain ⟨_,h0,h1,h2,h3,h4,h17,h18⟩:=h
 cases h0; cases h1; cases h2; cases h3; cases h4; cases h17; cases h18
 exact ⟨y5,y6,y7,y8,y9,y10,y11,y12,y13,y14,y15,y16,y19,y20,y21,y22,y23,y24,y25,y26,y27,y28,y29,y30,y31,y32,y33,y34,y35,y36,y37,y38,y39,y40,y41,y42,y43,y44,y45,y46,y47,y48,y49,y50,y51,y52,y53,y54,y55,y56,y57,y58,y59,y60,rfl⟩
def HS (ch:Value) (cx cy d n:Nat) (most:Int) (st:Nat → Nat → Int) (sm:Nat → Nat → Nat) (ds:List Deferred) (i:Nat) (t:List Item) (a:Act) (w':World):Prop :=
 (i < n ∧ t=[.code (.refuse "13"),.inBlock 1,.code sR14,.inLoop sX,.inBlock 0] ∧ ∃ w:World,RowN ch cx cy d n most st sm ds w i a w') ∨ (i=n ∧ t=[] ∧ a.tmps.size=61 ∧ a.defers=ds)
section
variable {cx cy d n:Nat} {most:Int} {px py:Nat → Nat → Nat} {bx:Nat → Nat → Value} {st:Nat → Nat → Int} {sm:Nat → Nat → Nat} (C:CellOK cx cy d n most px py bx st sm) (hn:n ≤ 8) {ch:Value} {i:Nat} {a:Act}
include C hn
set_option maxRecDepth 100000 in
set_option maxHeartbeats 4000000 in
theorem hw_head (hi:i ≤ n) (h:SA ch cx cy d n most i a) (w:World):HW Vp.prog [.code sX,.inLoop sX,.inBlock 0] (HS ch cx cy d n most st sm a.defers i) a w:=by
 obtain ⟨y5,y6,y7,y8,y9,y10,y11,y12,y13,y14,y15,y16,y19,y20,y21,y22,y23,y24,y25,y26,y27,y28,y29,y30,y31,y32,y33,y34,y35,y36,y37,y38,y39,y40,y41,y42,y43,y44,y45,y46,y47,y48,y49,y50,y51,y52,y53,y54,y55,y56,y57,y58,y59,y60,ha⟩:=h.arr
 obtain ⟨t,ds⟩:=a
 dsimp only at ha ⊢
 rw [ha]
 clear ha h
 rw [show Item.code sX=Item.code (.seq sR2 (.seq (.cond (.tmp 19) .skip (.exit 0)) (.seq (.block 1 (.seq sR3 (.seq sR4 (.seq sIn (.refuse "13"))))) sR14))) from congrArg Item.code sX_eq]
 refine .seq ?_
 by_cases hlt:i < n
 · refine HW.codeN (N:=fun a' w' => w'=w ∧ a'=⟨#[ch,(.complex .f32 cx cy),(.int .i64 d),(.int .i64 n),(.int .i64 most),y5,y6,y7,y8,y9,y10,y11,y12,y13,y14,y15,y16,(.int .i64 n),(.int .i64 i),.bool true,y20,y21,y22,y23,y24,y25,y26,y27,y28,y29,y30,y31,y32,y33,y34,y35,y36,y37,y38,y39,y40,y41,y42,y43,y44,y45,y46,y47,y48,y49,y50,y51,y52,y53,y54,y55,y56,y57,y58,y59,y60],ds⟩) ?_ ?_
   · unfold sR2 sX0 sBody Tryz.f35
     dsimp only [Option.getD]
     go_wp2
     exact ⟨rfl,rfl⟩
   · rintro _ _ ⟨rfl,rfl⟩
     refine .seq (.cond (t:=true) rfl (.skip (.seq (.block (.seq ?_)))))
     refine HW.codeN (row_wp C hn i hlt ch ds _ _ _ _ _ _ _ _ _ _ _ _ _ _ _ _ _ _ _ _ _ _ _ _ _ _ _ _ _ _ _ _ _ _ _ _ _ _ _ _ _ _ _ _ _ _ _ _ _ _ _ _ _ _ _) fun a1 w1 h1 => .seq (HW.codeN h1 fun a2 w2 h2 => .seq (HW.codeN h2 fun a3 w3 h3 => .stop (.inl ⟨hlt,rfl,_,h3⟩)))
 · obtain rfl:i=n:=by omega
   refine HW.codeN (N:=fun a' w' => w'=w ∧ a'=⟨#[ch,(.complex .f32 cx cy),(.int .i64 d),(.int .i64 i),(.int .i64 most),y5,y6,y7,y8,y9,y10,y11,y12,y13,y14,y15,y16,(.int .i64 i),(.int .i64 i),.bool false,y20,y21,y22,y23,y24,y25,y26,y27,y28,y29,y30,y31,y32,y33,y34,y35,y36,y37,y38,y39,y40,y41,y42,y43,y44,y45,y46,y47,y48,y49,y50,y51,y52,y53,y54,y55,y56,y57,y58,y59,y60],ds⟩) ?_ ?_
   · unfold sR2 sX0 sBody Tryz.f35
     dsimp only [Option.getD]
     go_wp2
     exact ⟨rfl,rfl⟩
   · rintro _ _ ⟨rfl,rfl⟩
     exact .seq (.cond (t:=false) rfl (.exit (s':=[]) rfl (.stop (.inr ⟨rfl,rfl,rfl,rfl⟩))))
set_option maxRecDepth 100000 in
set_option maxHeartbeats 4000000 in

theorem hw_next (hi:i < n) (h:SA ch cx cy d n most i a) (w:World):HW Vp.prog [.inBlock 1,.code sR14,.inLoop sX,.inBlock 0] (HS ch cx cy d n most st sm a.defers (i + 1)) a w:=by
 obtain ⟨y5,y6,y7,y8,y9,y10,y11,y12,y13,y14,y15,y16,y19,y20,y21,y22,y23,y24,y25,y26,y27,y28,y29,y30,y31,y32,y33,y34,y35,y36,y37,y38,y39,y40,y41,y42,y43,y44,y45,y46,y47,y48,y49,y50,y51,y52,y53,y54,y55,y56,y57,y58,y59,y60,ha⟩:=h.arr
 obtain ⟨t,ds⟩:=a
 dsimp only at ha ⊢
 rw [ha]
 clear ha h
 refine .inBlock (HW.codeN (N:=fun a' w' => w'=w ∧ SA ch cx cy d n most (i + 1) a' ∧ a'.defers=ds) ?_ ?_)
 · unfold sR14 sX0 sBody Tryz.f35
   dsimp only [Option.getD]
   go_wp2
   exact ⟨rfl,⟨rfl,rfl,rfl,rfl,rfl,rfl,rfl,by go_num⟩,rfl⟩
 · rintro a1 _ ⟨rfl,h1,rfl⟩
   exact .inLoop (hw_head C hn hi h1 _)
set_option maxRecDepth 100000 in
set_option maxHeartbeats 4000000 in

theorem hw_first (hsz:a.tmps.size=61) (h0:a.tmps[0]?=some ch) (h1:a.tmps[1]?=some (.complex .f32 cx cy)) (h2:a.tmps[2]?=some (.int .i64 d)) (h3:a.tmps[3]?=some (.int .i64 n)) (h4:a.tmps[4]?=some (.int .i64 most)) (w:World) :
   HW Vp.prog [.code (.seq sR1 (.block 0 (.loop sX)))] (HS ch cx cy d n most st sm a.defers 0) a w:=by
 obtain ⟨t,ds⟩:=a
 dsimp only at hsz h0 h1 h2 h3 h4 ⊢
 obtain ⟨y0,y1,y2,y3,y4,y5,y6,y7,y8,y9,y10,y11,y12,y13,y14,y15,y16,y17,y18,y19,y20,y21,y22,y23,y24,y25,y26,y27,y28,y29,y30,y31,y32,y33,y34,y35,y36,y37,y38,y39,y40,y41,y42,y43,y44,y45,y46,y47,y48,y49,y50,y51,y52,y53,y54,y55,y56,y57,y58,y59,y60,rfl⟩:=arr61 t hsz
 cases h0; cases h1; cases h2; cases h3; cases h4
 refine .seq (HW.codeN (N:=fun a' w' => w'=w ∧ SA y0 cx cy d n most 0 a' ∧ a'.defers=ds) ?_ ?_)
 · unfold sR1 sBody Tryz.f35
   dsimp only [Option.getD]
   go_wp2
   exact ⟨rfl,⟨rfl,rfl,rfl,rfl,rfl,rfl,rfl,rfl⟩,rfl⟩
 · rintro a1 _ ⟨rfl,h1,rfl⟩
   exact .block (.loop (hw_head C hn (Nat.zero_le _) h1 _))
end
end Go.Proofs.YtokbalggdhippaaGreat
end
