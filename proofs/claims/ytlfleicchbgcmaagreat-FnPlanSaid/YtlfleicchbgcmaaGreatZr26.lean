import Derived.Test.YtlfleicchbgcmaaGreatZr25
import Derived.Test.YtlfleicchbgcmaaGreatZr0
set_option linter.all false
set_option maxHeartbeats 16000000
set_option maxRecDepth 100000
namespace Go.Proofs.YtlfleicchbgcmaaGreat
section
open Go.ChangeShapes Go.WideShapes Go.ChangeAt Go.RowKit Go.Conc Ok
theorem A9k {w:World}(h:w.ShapedOpen Tryz.prog):A6r 1 w:=by
 intro b C t fr _ hb hw n l;have hn:Vp.prog.globals.size=1:=by kernel_rfl
 have hnW:Tryz.prog.globals.size=1:=by kernel_rfl
 obtain rfl:b=0:=by omega
 obtain⟨cs,h1,-,-⟩:=h.1 0 #[.bool false] 4 (by omega) (by kernel_rfl)
 rw[h1]at hw;injection hw with hw
 injection hw with _ hw
 subst hw
 exact Ahe n l
theorem Vd {cl:List Nat}(R:Pn cl [1] 4)(hV:A4b)(hlaw:∀(w:World) (a:Option Addr) (c:Nat) (bs:List UInt8),bs.length<=maxLen->bs.length<=c->Sl w a (bs.map Da)->Calls Vp.prog 4 #[.slice a bs.length c] w fun e _=>e=.returned (.bool true))
 (os:Os) (started:os.Started) (H:Type) (enc:TypeId×Value->H) :
 ReturnsInLeavingWide {} Tryz.checked os 4 .any (Rows.fnPlanSpec.pre6 enc Tryz.prog Tryz.f4 Rows.fnPlanRow.domain false) (Rows.fnPlanSpec.post enc Tryz.prog Tryz.f4 false true false false):=by
 refine A5b (C:=Tryz.checked) Aon started (by kernel_rfl)
  (ChangeSpec.witness6 (enc:=enc) (C:=Tryz.checked) false ⟨#[],#[.slice none 0 0],[]⟩ 8 (by kernel_rfl) (by kernel_rfl) (by kernel_rfl) (by kernel_rfl)) ?_
 intro W base args ds gs before hsh hval0 hW;have hval:∀(j:Nat) t v,Tryz.f4.params[j]?=some t->args[j]?=some v->Value.okWide Tryz.prog W .any base t v:=hval0;have hW':=hW;obtain⟨p,q,hA0,hV0,rfl,_,_⟩:=hW;have hA:DataW.TrodAll enc Tryz.prog W 0 (fun _=>true) true Tryz.f4.params.toList args.toList ds p:=hA0
 rw[Tryz.params4]at hA hval;obtain⟨v0,vs0,d0,ds0,p0,q0,hargs,rfl,rfl,h0,r0⟩:=trodAll_cons hA;obtain⟨rfl,rfl,rfl⟩:=trodAll_nil r0;obtain rfl:args=#[v0]:=by cases args;simp_all
 obtain⟨rfl,rfl⟩:=trodVars_none hV0;have hok:=hval 0 22 v0 rfl rfl;obtain⟨a0,c0,l0,rfl,n0,m0,s0⟩:=A5h Tryz.underlying22 Tryz.underlying5 (by kernel_rfl) hok h0
 clear hA0 hval0;have hgb:W.heap[1]?=_:=Vh hsh;obtain⟨N,last,o,w',t',e1,e2,e3,e4⟩:=A1r R hV (W0:=W) (a:=a0) (c:=c0) (bs:=l0) (by rw[A90];exact A4u hsh) (A9k hsh) hgb (fun i v h=>Zj h) s0 (Ab4 Tryz.underlying22 hok) fun w _ hs=>hlaw w a0 c0 l0 n0 m0 hs
 exact⟨N,last,o,w',t',e1,e2,e3,e4.mono fun v ⟨hv,hb⟩=>by
  subst hv
  exact Ace Akm (by kernel_rfl) (by kernel_rfl) rfl Tryz.underlying4 hW' rfl rfl rfl hb⟩
theorem A8d {cl:List Nat}(R:Pn cl [1] 4)(hV:A4b)(hlaw:∀(w:World) (a:Option Addr) (c:Nat) (bs:List UInt8),bs.length<=maxLen->bs.length<=c->Sl w a (bs.map Da)->Calls Vp.prog 4 #[.slice a bs.length c] w fun e _=>e=.returned (.bool true)):Rows.FnPlanSaid :=
 OpenClaim.holds_of_wide_leaving 4 Tryz.f4 rfl rfl rfl rfl rfl rfl rfl ⟨rfl,rfl,rfl,rfl,rfl⟩ rfl rfl rfl rfl rfl (by kernel_rfl) Tryz.func4 (by kernel_rfl)
  (of_decide_eq_true (by kernel_rfl)) (by unfold Func.isWrapper;first |(rw[Apb (by decide +kernel)];kernel_rfl) |(rw[Ap8 (by decide +kernel)];exact⟨rfl,rfl⟩))
  (fun os started H enc _=>Vd R hV hlaw os started H enc)
end
end Go.Proofs.YtlfleicchbgcmaaGreat
