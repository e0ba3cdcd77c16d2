/- Merged texts: Vp, AngP, AngV, Sl, BoxS. -/
import Derived.Test.YtokbalggdhippaaGreatProg
import Derived.ProofKit
import Derived.WalkKit
import Derived.Test.YtokbalggdhippaaGreatRows
import Derived.Test.YtokbalggdhippaaGreatR1
import Derived.Laws.MakeOwn
import Derived.Lib.FrozenHead
import Derived.Deep.RegionWith
set_option linter.all false
section
namespace Go.Proofs.YtokbalggdhippaaGreat.Vp
open Go
def lay (id:Nat) (new:Array Oper):Code → Code
 | .region i ops d => if i == id then .region i new d else .region i ops d
 | .seq a b => .seq (lay id new a) (lay id new b)
 | .cond c a b => .cond c (lay id new a) (lay id new b)
 | .rangeFunc f p a b => .rangeFunc f p (lay id new a) (lay id new b)
 | .block i c => .block i (lay id new c)
 | .loop c => .loop (lay id new c)
 | .scope c => .scope (lay id new c)
 | c => c
def made:Array Oper:=#[
 { dst:=some 23,op:=.move (.tmp 0),type:=23,pos := "",after:=#[],guard:=none },
 { dst:=some 24,op:=.move (.tmp 1),type:=3,pos := "",after:=#[],guard:=none },
 { dst:=some 25,op:=.move (.tmp 2),type:=3,pos := "",after:=#[],guard:=none },
 { dst:=some 75,op:=.binOp .mul 3 (.tmp 25) (.tmp 25) 3,type:=3,pos := "",after:=#[],guard:=none },
 { dst:=some 26,op:=.makeSlice 26 (.const (.int .i64 0)) (.tmp 75),type:=26,pos := "",after:=#[],guard:=none },
 { dst:=some 27,op:=.makeSlice 27 (.const (.int .i64 0)) (.tmp 75),type:=27,pos := "",after:=#[],guard:=none },
 { dst:=some 28,op:=.build 29 #[(0,.tmp 23),(1,.tmp 24),(2,.tmp 25),(3,.tmp 26),(4,.tmp 27)],type:=29,pos := "",after:=#[],guard:=none },
 { dst:=some 10,op:=.alloc 29,type:=0,pos := "",after:=#[],guard:=none },
 { dst:=none,op:=.store 29 (.tmp 10) (.tmp 28),type:=0,pos := "",after:=#[],guard:=none }]
def guards:Array Oper:=#[
 { dst:=some 76,op:=.call { callee:=.builtin .real,args:=#[.tmp 0],argTypes:=#[23] },type:=63,pos := "",after:=#[],guard:=none },
 { dst:=some 80,op:=.binOp .lss 63 (.tmp 76) (.const (.float .f32 0)) 63,type:=63,pos := "",after:=#[],guard:=none },
 { dst:=some 77,op:=.binOp .mul 3 (.tmp 1) (.const (.int .i64 0)) 3,type:=3,pos := "",after:=#[],guard:=none },
 { dst:=some 78,op:=.binOp .mul 3 (.tmp 2) (.const (.int .i64 0)) 3,type:=3,pos := "",after:=#[],guard:=none },
 { dst:=some 79,op:=.binOp .mul 3 (.tmp 3) (.const (.int .i64 0)) 3,type:=3,pos := "",after:=#[],guard:=none }]
def guarded (c:Code):Code:=.seq (.region 90 guards false) (lay 3 made c)
noncomputable def fT:Func:={ Tryz.f11 with ntmps:=81,body:=Tryz.f29.body.map guarded }
noncomputable def prog:Program:={ Tryz.prog with funcs:=Tryz.prog.funcs.setIfInBounds 11 fT }
theorem tab_ (p:Program) (fs:Array Func):({ p with funcs:=fs }:Program).toTables=p.toTables:=rfl
@[simp] theorem tab:prog.toTables=Tryz.prog.toTables:=by unfold prog; exact tab_ _ _
theorem size_ (p:Program) (k:Nat) (f:Func):({ p with funcs:=p.funcs.setIfInBounds k f }:Program).funcs.size=p.funcs.size:=by simp
theorem size:prog.funcs.size=Tryz.prog.funcs.size:=by unfold prog; exact size_ _ _ _
theorem same_ (p:Program) {j k:Nat} (h:j ≠ k) (f:Func):({ p with funcs:=p.funcs.setIfInBounds k f }:Program).funcs[j]?=p.funcs[j]?:=Array.getElem?_setIfInBounds_ne (Ne.symm h)
theorem same {k:Nat} (h:k ≠ 11):prog.funcs[k]?=Tryz.prog.funcs[k]?:=by
 unfold prog
 exact same_ _ h _
theorem func_ (p:Program) {k:Nat} {g:Func} (h:p.funcs[k]?=some g) (f:Func):({ p with funcs:=p.funcs.setIfInBounds k f }:Program).funcs[k]?=some f:=Array.getElem?_setIfInBounds_self_of_lt (Array.getElem?_eq_some_iff.1 h).1
@[simp] theorem funcT:prog.funcs[11]?=some fT:=by
 unfold prog
 exact func_ _ Tryz.func11 _
@[simp] theorem ntmpsT:fT.ntmps=81:=rfl
theorem par_ (f:Func) (n:Nat) (b:Option Code):({ f with ntmps:=n,body:=b }:Func).params=f.params:=rfl
theorem res_ (f:Func) (n:Nat) (b:Option Code):({ f with ntmps:=n,body:=b }:Func).results=f.results:=rfl
theorem bod_ (f:Func) (n:Nat) (b:Option Code):({ f with ntmps:=n,body:=b }:Func).body=b:=rfl
@[simp] theorem paramsT:fT.params=Tryz.f11.params:=by unfold fT; exact par_ _ _ _
@[simp] theorem resultsT:fT.results=Tryz.f11.results:=by unfold fT; exact res_ _ _ _
theorem bodyT:fT.body=Tryz.f29.body.map guarded:=by unfold fT; exact bod_ _ _ _
@[simp] theorem underlying' (t:TypeId):prog.underlying t=Tryz.prog.underlying t:=by unfold Program.underlying; rw [tab]
theorem rb {α β:Type} (P:Program) (x:Sem α) (f:α → Sem β) (w:World):(x >>= f).run P w=match x.run P w with
   | .ok a w' => (f a).run P w'
   | .halt h w' => .halt h w':=by
 rw [Sem.run_bind]
 cases x.run P w <;> rfl
section
variable {p p':Program} (h:p'.toTables=p.toTables)
include h
theorem info_ (t:TypeId):p'.info? t=p.info? t:=by rw [h]
theorem und_ (t:TypeId):p'.underlying t=p.underlying t:=by unfold Program.underlying; rw [h]
theorem run_typeInfo_ (t:TypeId) (w:World):Sem.run p' (typeInfo t) w=Sem.run p (typeInfo t) w:=by
 unfold typeInfo
 rw [rb,rb,run_program,run_program]
 dsimp only
 rw [info_ h]
 cases p.info? t <;> rfl
theorem run_underlying_ (t:TypeId) (w:World):Sem.run p' (underlying t) w=Sem.run p (underlying t) w:=by
 unfold underlying
 rw [rb,rb,run_program,run_program]
 dsimp only
 rw [und_ h]
 cases p.underlying t <;> rfl
theorem run_sizeOf_ (t:TypeId) (w:World):Sem.run p' (sizeOf t) w=Sem.run p (sizeOf t) w:=by
 unfold sizeOf
 rw [rb,rb,run_typeInfo_ h]
 cases (typeInfo t).run p w <;> rfl
theorem run_isAgg_ (t:TypeId) (w:World):Sem.run p' (isAgg t) w=Sem.run p (isAgg t) w:=by
 unfold isAgg
 rw [rb,rb,run_underlying_ h]
 cases (underlying t).run p w with
 | ok a w => cases a <;> rfl
 | halt a w => rfl
theorem run_zeroValue_ (t:TypeId) (w:World):Sem.run p' (zeroValue t) w=Sem.run p (zeroValue t) w:=by
 unfold zeroValue
 rw [rb,rb,run_typeInfo_ h]
 cases (typeInfo t).run p w with
 | ok a w => dsimp only; cases a.zero <;> rfl
 | halt a w => rfl
end
@[simp] theorem run_underlying (t:TypeId) (w:World):Sem.run prog (underlying t) w=Sem.run Tryz.prog (underlying t) w:=run_underlying_ tab t w
@[simp] theorem run_typeInfo (t:TypeId) (w:World):Sem.run prog (typeInfo t) w=Sem.run Tryz.prog (typeInfo t) w:=run_typeInfo_ tab t w
@[simp] theorem run_sizeOf (t:TypeId) (w:World):Sem.run prog (sizeOf t) w=Sem.run Tryz.prog (sizeOf t) w:=run_sizeOf_ tab t w
@[simp] theorem run_isAgg (t:TypeId) (w:World):Sem.run prog (isAgg t) w=Sem.run Tryz.prog (isAgg t) w:=run_isAgg_ tab t w
@[simp] theorem run_zeroValue (t:TypeId) (w:World):Sem.run prog (zeroValue t) w=Sem.run Tryz.prog (zeroValue t) w:=run_zeroValue_ tab t w
theorem und {t:TypeId} {d:TypeDesc} (h:Tryz.prog.underlying t=some d):prog.underlying t=some d:=(underlying' t).trans h
theorem callB {P:Program} {k:Nat} {fn:Func} (h:P.funcs[k]?=some fn) (hn:(fn.name == "runtime.NumGoroutine")=false) (hb:fn.body.isNone=false) (args:Array Value) (w:World):Sem.run P (callFunc k args) w=.ok (.enter k args) w:=by
 have h1:¬ fn.name = "runtime.NumGoroutine" := by simpa using hn
 have h2:¬ fn.body=none:=by cases hx:fn.body <;> simp_all
 unfold callFunc
 simp [h,h1,h2]
@[simp] theorem callT (args:Array Value) (w:World):Sem.run prog (callFunc 11 args) w=.ok (.enter 11 args) w:=callB funcT (by kernel_rfl) (by kernel_rfl) args w
@[simp] theorem func4:prog.funcs[4]?=some Tryz.f4:=(same (by decide)).trans Tryz.func4
@[simp] theorem func10:prog.funcs[10]?=some Tryz.f10:=(same (by decide)).trans Tryz.func10
@[simp] theorem call10 (args:Array Value) (w:World):Sem.run prog (callFunc 10 args) w=.ok (.enter 10 args) w:=callB func10 (by kernel_rfl) (by kernel_rfl) args w
@[simp] theorem func12:prog.funcs[12]?=some Tryz.f12:=(same (by decide)).trans Tryz.func12
@[simp] theorem call12 (args:Array Value) (w:World):Sem.run prog (callFunc 12 args) w=.ok (.enter 12 args) w:=callB func12 (by kernel_rfl) (by kernel_rfl) args w
@[simp] theorem func13:prog.funcs[13]?=some Tryz.f13:=(same (by decide)).trans Tryz.func13
@[simp] theorem call13 (args:Array Value) (w:World):Sem.run prog (callFunc 13 args) w=.ok (.enter 13 args) w:=callB func13 (by kernel_rfl) (by kernel_rfl) args w
@[simp] theorem func14:prog.funcs[14]?=some Tryz.f14:=(same (by decide)).trans Tryz.func14
@[simp] theorem call14 (args:Array Value) (w:World):Sem.run prog (callFunc 14 args) w=.ok (.enter 14 args) w:=callB func14 (by kernel_rfl) (by kernel_rfl) args w
@[simp] theorem func15:prog.funcs[15]?=some Tryz.f15:=(same (by decide)).trans Tryz.func15
@[simp] theorem call15 (args:Array Value) (w:World):Sem.run prog (callFunc 15 args) w=.ok (.enter 15 args) w:=callB func15 (by kernel_rfl) (by kernel_rfl) args w
@[simp] theorem func16:prog.funcs[16]?=some Tryz.f16:=(same (by decide)).trans Tryz.func16
@[simp] theorem call16 (args:Array Value) (w:World):Sem.run prog (callFunc 16 args) w=.ok (.enter 16 args) w:=callB func16 (by kernel_rfl) (by kernel_rfl) args w
@[simp] theorem func17:prog.funcs[17]?=some Tryz.f17:=(same (by decide)).trans Tryz.func17
@[simp] theorem call17 (args:Array Value) (w:World):Sem.run prog (callFunc 17 args) w=.ok (.enter 17 args) w:=callB func17 (by kernel_rfl) (by kernel_rfl) args w
@[simp] theorem func24:prog.funcs[24]?=some Tryz.f24:=(same (by decide)).trans Tryz.func24
@[simp] theorem call24 (args:Array Value) (w:World):Sem.run prog (callFunc 24 args) w=.ok (.enter 24 args) w:=callB func24 (by kernel_rfl) (by kernel_rfl) args w
@[simp] theorem func25:prog.funcs[25]?=some Tryz.f25:=(same (by decide)).trans Tryz.func25
@[simp] theorem call25 (args:Array Value) (w:World):Sem.run prog (callFunc 25 args) w=.ok (.enter 25 args) w:=callB func25 (by kernel_rfl) (by kernel_rfl) args w
@[simp] theorem func26:prog.funcs[26]?=some Tryz.f26:=(same (by decide)).trans Tryz.func26
@[simp] theorem call26 (args:Array Value) (w:World):Sem.run prog (callFunc 26 args) w=.ok (.enter 26 args) w:=callB func26 (by kernel_rfl) (by kernel_rfl) args w
@[simp] theorem func29:prog.funcs[29]?=some Tryz.f29:=(same (by decide)).trans Tryz.func29
@[simp] theorem call29 (args:Array Value) (w:World):Sem.run prog (callFunc 29 args) w=.ok (.enter 29 args) w:=callB func29 (by kernel_rfl) (by kernel_rfl) args w
@[simp] theorem func30:prog.funcs[30]?=some Tryz.f30:=(same (by decide)).trans Tryz.func30
@[simp] theorem call30 (args:Array Value) (w:World):Sem.run prog (callFunc 30 args) w=.ok (.enter 30 args) w:=callB func30 (by kernel_rfl) (by kernel_rfl) args w
@[simp] theorem func31:prog.funcs[31]?=some Tryz.f31:=(same (by decide)).trans Tryz.func31
@[simp] theorem call31 (args:Array Value) (w:World):Sem.run prog (callFunc 31 args) w=.ok (.enter 31 args) w:=callB func31 (by kernel_rfl) (by kernel_rfl) args w
@[simp] theorem func32:prog.funcs[32]?=some Tryz.f32:=(same (by decide)).trans Tryz.func32
@[simp] theorem call32 (args:Array Value) (w:World):Sem.run prog (callFunc 32 args) w=.ok (.enter 32 args) w:=callB func32 (by kernel_rfl) (by kernel_rfl) args w
@[simp] theorem func33:prog.funcs[33]?=some Tryz.f33:=(same (by decide)).trans Tryz.func33
@[simp] theorem call33 (args:Array Value) (w:World):Sem.run prog (callFunc 33 args) w=.ok (.enter 33 args) w:=callB func33 (by kernel_rfl) (by kernel_rfl) args w
@[simp] theorem func34:prog.funcs[34]?=some Tryz.f34:=(same (by decide)).trans Tryz.func34
@[simp] theorem call34 (args:Array Value) (w:World):Sem.run prog (callFunc 34 args) w=.ok (.enter 34 args) w:=callB func34 (by kernel_rfl) (by kernel_rfl) args w
@[simp] theorem func36:prog.funcs[36]?=some Tryz.f36:=(same (by decide)).trans Tryz.func36
@[simp] theorem call36 (args:Array Value) (w:World):Sem.run prog (callFunc 36 args) w=.ok (.enter 36 args) w:=callB func36 (by kernel_rfl) (by kernel_rfl) args w
@[simp] theorem func37:prog.funcs[37]?=some Tryz.f37:=(same (by decide)).trans Tryz.func37
@[simp] theorem call37 (args:Array Value) (w:World):Sem.run prog (callFunc 37 args) w=.ok (.enter 37 args) w:=callB func37 (by kernel_rfl) (by kernel_rfl) args w
@[simp] theorem func38:prog.funcs[38]?=some Tryz.f38:=(same (by decide)).trans Tryz.func38
@[simp] theorem call38 (args:Array Value) (w:World):Sem.run prog (callFunc 38 args) w=.ok (.enter 38 args) w:=callB func38 (by kernel_rfl) (by kernel_rfl) args w
@[simp] theorem func39:prog.funcs[39]?=some Tryz.f39:=(same (by decide)).trans Tryz.func39
@[simp] theorem call39 (args:Array Value) (w:World):Sem.run prog (callFunc 39 args) w=.ok (.enter 39 args) w:=callB func39 (by kernel_rfl) (by kernel_rfl) args w
@[simp] theorem func40:prog.funcs[40]?=some Tryz.f40:=(same (by decide)).trans Tryz.func40
@[simp] theorem call40 (args:Array Value) (w:World):Sem.run prog (callFunc 40 args) w=.ok (.enter 40 args) w:=callB func40 (by kernel_rfl) (by kernel_rfl) args w
@[simp] theorem func41:prog.funcs[41]?=some Tryz.f41:=(same (by decide)).trans Tryz.func41
@[simp] theorem call41 (args:Array Value) (w:World):Sem.run prog (callFunc 41 args) w=.ok (.enter 41 args) w:=callB func41 (by kernel_rfl) (by kernel_rfl) args w
@[simp] theorem func44:prog.funcs[44]?=some Tryz.f44:=(same (by decide)).trans Tryz.func44
@[simp] theorem call44 (args:Array Value) (w:World):Sem.run prog (callFunc 44 args) w=.ok (.enter 44 args) w:=callB func44 (by kernel_rfl) (by kernel_rfl) args w
@[simp] theorem func50:prog.funcs[50]?=some Tryz.f50:=(same (by decide)).trans Tryz.func50
@[simp] theorem call50 (args:Array Value) (w:World):Sem.run prog (callFunc 50 args) w=.ok (.enter 50 args) w:=callB func50 (by kernel_rfl) (by kernel_rfl) args w
@[simp] theorem func51:prog.funcs[51]?=some Tryz.f51:=(same (by decide)).trans Tryz.func51
@[simp] theorem call51 (args:Array Value) (w:World):Sem.run prog (callFunc 51 args) w=.ok (.enter 51 args) w:=callB func51 (by kernel_rfl) (by kernel_rfl) args w
@[simp] theorem func52:prog.funcs[52]?=some Tryz.f52:=(same (by decide)).trans Tryz.func52
@[simp] theorem call52 (args:Array Value) (w:World):Sem.run prog (callFunc 52 args) w=.ok (.enter 52 args) w:=callB func52 (by kernel_rfl) (by kernel_rfl) args w
@[simp] theorem func53:prog.funcs[53]?=some Tryz.f53:=(same (by decide)).trans Tryz.func53
@[simp] theorem call53 (args:Array Value) (w:World):Sem.run prog (callFunc 53 args) w=.ok (.enter 53 args) w:=callB func53 (by kernel_rfl) (by kernel_rfl) args w
@[simp] theorem func54:prog.funcs[54]?=some Tryz.f54:=(same (by decide)).trans Tryz.func54
@[simp] theorem call54 (args:Array Value) (w:World):Sem.run prog (callFunc 54 args) w=.ok (.enter 54 args) w:=callB func54 (by kernel_rfl) (by kernel_rfl) args w
@[simp] theorem func55:prog.funcs[55]?=some Tryz.f55:=(same (by decide)).trans Tryz.func55
@[simp] theorem call55 (args:Array Value) (w:World):Sem.run prog (callFunc 55 args) w=.ok (.enter 55 args) w:=callB func55 (by kernel_rfl) (by kernel_rfl) args w
@[simp] theorem func56:prog.funcs[56]?=some Tryz.f56:=(same (by decide)).trans Tryz.func56
@[simp] theorem call56 (args:Array Value) (w:World):Sem.run prog (callFunc 56 args) w=.ok (.enter 56 args) w:=callB func56 (by kernel_rfl) (by kernel_rfl) args w
@[simp] theorem func57:prog.funcs[57]?=some Tryz.f57:=(same (by decide)).trans Tryz.func57
@[simp] theorem call57 (args:Array Value) (w:World):Sem.run prog (callFunc 57 args) w=.ok (.enter 57 args) w:=callB func57 (by kernel_rfl) (by kernel_rfl) args w
@[simp] theorem func58:prog.funcs[58]?=some Tryz.f58:=(same (by decide)).trans Tryz.func58
@[simp] theorem call58 (args:Array Value) (w:World):Sem.run prog (callFunc 58 args) w=.ok (.enter 58 args) w:=callB func58 (by kernel_rfl) (by kernel_rfl) args w
@[simp] theorem func59:prog.funcs[59]?=some Tryz.f59:=(same (by decide)).trans Tryz.func59
@[simp] theorem call59 (args:Array Value) (w:World):Sem.run prog (callFunc 59 args) w=.ok (.enter 59 args) w:=callB func59 (by kernel_rfl) (by kernel_rfl) args w
@[simp] theorem func60:prog.funcs[60]?=some Tryz.f60:=(same (by decide)).trans Tryz.func60
@[simp] theorem call60 (args:Array Value) (w:World):Sem.run prog (callFunc 60 args) w=.ok (.enter 60 args) w:=callB func60 (by kernel_rfl) (by kernel_rfl) args w
@[simp] theorem func61:prog.funcs[61]?=some Tryz.f61:=(same (by decide)).trans Tryz.func61
@[simp] theorem call61 (args:Array Value) (w:World):Sem.run prog (callFunc 61 args) w=.ok (.enter 61 args) w:=callB func61 (by kernel_rfl) (by kernel_rfl) args w
@[simp] theorem func62:prog.funcs[62]?=some Tryz.f62:=(same (by decide)).trans Tryz.func62
@[simp] theorem call62 (args:Array Value) (w:World):Sem.run prog (callFunc 62 args) w=.ok (.enter 62 args) w:=callB func62 (by kernel_rfl) (by kernel_rfl) args w
@[simp] theorem func63:prog.funcs[63]?=some Tryz.f63:=(same (by decide)).trans Tryz.func63
@[simp] theorem call63 (args:Array Value) (w:World):Sem.run prog (callFunc 63 args) w=.ok (.enter 63 args) w:=callB func63 (by kernel_rfl) (by kernel_rfl) args w
@[simp] theorem func76:prog.funcs[76]?=some Tryz.f76:=(same (by decide)).trans Tryz.func76
@[simp] theorem call76 (args:Array Value) (w:World):Sem.run prog (callFunc 76 args) w=.ok (.enter 76 args) w:=callB func76 (by kernel_rfl) (by kernel_rfl) args w
@[simp] theorem func77:prog.funcs[77]?=some Tryz.f77:=(same (by decide)).trans Tryz.func77
@[simp] theorem call77 (args:Array Value) (w:World):Sem.run prog (callFunc 77 args) w=.ok (.enter 77 args) w:=callB func77 (by kernel_rfl) (by kernel_rfl) args w
@[simp] theorem func78:prog.funcs[78]?=some Tryz.f78:=(same (by decide)).trans Tryz.func78
@[simp] theorem call78 (args:Array Value) (w:World):Sem.run prog (callFunc 78 args) w=.ok (.enter 78 args) w:=callB func78 (by kernel_rfl) (by kernel_rfl) args w
@[simp] theorem func79:prog.funcs[79]?=some Tryz.f79:=(same (by decide)).trans Tryz.func79
@[simp] theorem call79 (args:Array Value) (w:World):Sem.run prog (callFunc 79 args) w=.ok (.enter 79 args) w:=callB func79 (by kernel_rfl) (by kernel_rfl) args w
@[simp] theorem func80:prog.funcs[80]?=some Tryz.f80:=(same (by decide)).trans Tryz.func80
@[simp] theorem call80 (args:Array Value) (w:World):Sem.run prog (callFunc 80 args) w=.ok (.enter 80 args) w:=callB func80 (by kernel_rfl) (by kernel_rfl) args w
@[simp] theorem func81:prog.funcs[81]?=some Tryz.f81:=(same (by decide)).trans Tryz.func81
@[simp] theorem call81 (args:Array Value) (w:World):Sem.run prog (callFunc 81 args) w=.ok (.enter 81 args) w:=callB func81 (by kernel_rfl) (by kernel_rfl) args w
@[simp] theorem func82:prog.funcs[82]?=some Tryz.f82:=(same (by decide)).trans Tryz.func82
@[simp] theorem call82 (args:Array Value) (w:World):Sem.run prog (callFunc 82 args) w=.ok (.enter 82 args) w:=callB func82 (by kernel_rfl) (by kernel_rfl) args w
@[simp] theorem func83:prog.funcs[83]?=some Tryz.f83:=(same (by decide)).trans Tryz.func83
@[simp] theorem call83 (args:Array Value) (w:World):Sem.run prog (callFunc 83 args) w=.ok (.enter 83 args) w:=callB func83 (by kernel_rfl) (by kernel_rfl) args w
@[simp] theorem func84:prog.funcs[84]?=some Tryz.f84:=(same (by decide)).trans Tryz.func84
@[simp] theorem call84 (args:Array Value) (w:World):Sem.run prog (callFunc 84 args) w=.ok (.enter 84 args) w:=callB func84 (by kernel_rfl) (by kernel_rfl) args w
@[simp] theorem func85:prog.funcs[85]?=some Tryz.f85:=(same (by decide)).trans Tryz.func85
@[simp] theorem call85 (args:Array Value) (w:World):Sem.run prog (callFunc 85 args) w=.ok (.enter 85 args) w:=callB func85 (by kernel_rfl) (by kernel_rfl) args w
@[simp] theorem func86:prog.funcs[86]?=some Tryz.f86:=(same (by decide)).trans Tryz.func86
@[simp] theorem call86 (args:Array Value) (w:World):Sem.run prog (callFunc 86 args) w=.ok (.enter 86 args) w:=callB func86 (by kernel_rfl) (by kernel_rfl) args w
@[simp] theorem func87:prog.funcs[87]?=some Tryz.f87:=(same (by decide)).trans Tryz.func87
@[simp] theorem call87 (args:Array Value) (w:World):Sem.run prog (callFunc 87 args) w=.ok (.enter 87 args) w:=callB func87 (by kernel_rfl) (by kernel_rfl) args w
@[simp] theorem func88:prog.funcs[88]?=some Tryz.f88:=(same (by decide)).trans Tryz.func88
@[simp] theorem call88 (args:Array Value) (w:World):Sem.run prog (callFunc 88 args) w=.ok (.enter 88 args) w:=callB func88 (by kernel_rfl) (by kernel_rfl) args w
@[simp] theorem func89:prog.funcs[89]?=some Tryz.f89:=(same (by decide)).trans Tryz.func89
@[simp] theorem call89 (args:Array Value) (w:World):Sem.run prog (callFunc 89 args) w=.ok (.enter 89 args) w:=callB func89 (by kernel_rfl) (by kernel_rfl) args w
@[simp] theorem func90:prog.funcs[90]?=some Tryz.f90:=(same (by decide)).trans Tryz.func90
@[simp] theorem call90 (args:Array Value) (w:World):Sem.run prog (callFunc 90 args) w=.ok (.enter 90 args) w:=callB func90 (by kernel_rfl) (by kernel_rfl) args w
@[simp] theorem func97:prog.funcs[97]?=some Tryz.f97:=(same (by decide)).trans Tryz.func97
@[simp] theorem call97 (args:Array Value) (w:World):Sem.run prog (callFunc 97 args) w=.ok (.enter 97 args) w:=callB func97 (by kernel_rfl) (by kernel_rfl) args w
@[simp] theorem func98:prog.funcs[98]?=some Tryz.f98:=(same (by decide)).trans Tryz.func98
@[simp] theorem call98 (args:Array Value) (w:World):Sem.run prog (callFunc 98 args) w=.ok (.enter 98 args) w:=callB func98 (by kernel_rfl) (by kernel_rfl) args w
@[simp] theorem func99:prog.funcs[99]?=some Tryz.f99:=(same (by decide)).trans Tryz.func99
@[simp] theorem call99 (args:Array Value) (w:World):Sem.run prog (callFunc 99 args) w=.ok (.enter 99 args) w:=callB func99 (by kernel_rfl) (by kernel_rfl) args w
@[simp] theorem func100:prog.funcs[100]?=some Tryz.f100:=(same (by decide)).trans Tryz.func100
@[simp] theorem call100 (args:Array Value) (w:World):Sem.run prog (callFunc 100 args) w=.ok (.enter 100 args) w:=callB func100 (by kernel_rfl) (by kernel_rfl) args w
@[simp] theorem func101:prog.funcs[101]?=some Tryz.f101:=(same (by decide)).trans Tryz.func101
@[simp] theorem call101 (args:Array Value) (w:World):Sem.run prog (callFunc 101 args) w=.ok (.enter 101 args) w:=callB func101 (by kernel_rfl) (by kernel_rfl) args w
@[simp] theorem func102:prog.funcs[102]?=some Tryz.f102:=(same (by decide)).trans Tryz.func102
@[simp] theorem call102 (args:Array Value) (w:World):Sem.run prog (callFunc 102 args) w=.ok (.enter 102 args) w:=callB func102 (by kernel_rfl) (by kernel_rfl) args w
@[simp] theorem func103:prog.funcs[103]?=some Tryz.f103:=(same (by decide)).trans Tryz.func103
@[simp] theorem call103 (args:Array Value) (w:World):Sem.run prog (callFunc 103 args) w=.ok (.enter 103 args) w:=callB func103 (by kernel_rfl) (by kernel_rfl) args w
@[simp] theorem func104:prog.funcs[104]?=some Tryz.f104:=(same (by decide)).trans Tryz.func104
@[simp] theorem call104 (args:Array Value) (w:World):Sem.run prog (callFunc 104 args) w=.ok (.enter 104 args) w:=callB func104 (by kernel_rfl) (by kernel_rfl) args w
@[simp] theorem func105:prog.funcs[105]?=some Tryz.f105:=(same (by decide)).trans Tryz.func105
@[simp] theorem call105 (args:Array Value) (w:World):Sem.run prog (callFunc 105 args) w=.ok (.enter 105 args) w:=callB func105 (by kernel_rfl) (by kernel_rfl) args w
@[simp] theorem func106:prog.funcs[106]?=some Tryz.f106:=(same (by decide)).trans Tryz.func106
@[simp] theorem call106 (args:Array Value) (w:World):Sem.run prog (callFunc 106 args) w=.ok (.enter 106 args) w:=callB func106 (by kernel_rfl) (by kernel_rfl) args w
@[simp] theorem func109:prog.funcs[109]?=some Tryz.f109:=(same (by decide)).trans Tryz.func109
@[simp] theorem call109 (args:Array Value) (w:World):Sem.run prog (callFunc 109 args) w=.ok (.enter 109 args) w:=callB func109 (by kernel_rfl) (by kernel_rfl) args w
@[simp] theorem func110:prog.funcs[110]?=some Tryz.f110:=(same (by decide)).trans Tryz.func110
@[simp] theorem call110 (args:Array Value) (w:World):Sem.run prog (callFunc 110 args) w=.ok (.enter 110 args) w:=callB func110 (by kernel_rfl) (by kernel_rfl) args w
@[simp] theorem func111:prog.funcs[111]?=some Tryz.f111:=(same (by decide)).trans Tryz.func111
@[simp] theorem call111 (args:Array Value) (w:World):Sem.run prog (callFunc 111 args) w=.ok (.enter 111 args) w:=callB func111 (by kernel_rfl) (by kernel_rfl) args w
@[simp] theorem func112:prog.funcs[112]?=some Tryz.f112:=(same (by decide)).trans Tryz.func112
@[simp] theorem call112 (args:Array Value) (w:World):Sem.run prog (callFunc 112 args) w=.ok (.enter 112 args) w:=callB func112 (by kernel_rfl) (by kernel_rfl) args w
@[simp] theorem func113:prog.funcs[113]?=some Tryz.f113:=(same (by decide)).trans Tryz.func113
@[simp] theorem call113 (args:Array Value) (w:World):Sem.run prog (callFunc 113 args) w=.ok (.enter 113 args) w:=callB func113 (by kernel_rfl) (by kernel_rfl) args w
@[simp] theorem func114:prog.funcs[114]?=some Tryz.f114:=(same (by decide)).trans Tryz.func114
@[simp] theorem call114 (args:Array Value) (w:World):Sem.run prog (callFunc 114 args) w=.ok (.enter 114 args) w:=callB func114 (by kernel_rfl) (by kernel_rfl) args w
@[simp] theorem func115:prog.funcs[115]?=some Tryz.f115:=(same (by decide)).trans Tryz.func115
@[simp] theorem call115 (args:Array Value) (w:World):Sem.run prog (callFunc 115 args) w=.ok (.enter 115 args) w:=callB func115 (by kernel_rfl) (by kernel_rfl) args w
@[simp] theorem func116:prog.funcs[116]?=some Tryz.f116:=(same (by decide)).trans Tryz.func116
@[simp] theorem call116 (args:Array Value) (w:World):Sem.run prog (callFunc 116 args) w=.ok (.enter 116 args) w:=callB func116 (by kernel_rfl) (by kernel_rfl) args w
@[simp] theorem func117:prog.funcs[117]?=some Tryz.f117:=(same (by decide)).trans Tryz.func117
@[simp] theorem call117 (args:Array Value) (w:World):Sem.run prog (callFunc 117 args) w=.ok (.enter 117 args) w:=callB func117 (by kernel_rfl) (by kernel_rfl) args w
@[simp] theorem func118:prog.funcs[118]?=some Tryz.f118:=(same (by decide)).trans Tryz.func118
@[simp] theorem call118 (args:Array Value) (w:World):Sem.run prog (callFunc 118 args) w=.ok (.enter 118 args) w:=callB func118 (by kernel_rfl) (by kernel_rfl) args w
@[simp] theorem func119:prog.funcs[119]?=some Tryz.f119:=(same (by decide)).trans Tryz.func119
@[simp] theorem call119 (args:Array Value) (w:World):Sem.run prog (callFunc 119 args) w=.ok (.enter 119 args) w:=callB func119 (by kernel_rfl) (by kernel_rfl) args w
@[simp] theorem func120:prog.funcs[120]?=some Tryz.f120:=(same (by decide)).trans Tryz.func120
@[simp] theorem call120 (args:Array Value) (w:World):Sem.run prog (callFunc 120 args) w=.ok (.enter 120 args) w:=callB func120 (by kernel_rfl) (by kernel_rfl) args w
@[simp] theorem func121:prog.funcs[121]?=some Tryz.f121:=(same (by decide)).trans Tryz.func121
@[simp] theorem call121 (args:Array Value) (w:World):Sem.run prog (callFunc 121 args) w=.ok (.enter 121 args) w:=callB func121 (by kernel_rfl) (by kernel_rfl) args w
@[simp] theorem func132:prog.funcs[132]?=some Tryz.f132:=(same (by decide)).trans Tryz.func132
@[simp] theorem call132 (args:Array Value) (w:World):Sem.run prog (callFunc 132 args) w=.ok (.enter 132 args) w:=callB func132 (by kernel_rfl) (by kernel_rfl) args w
@[simp] theorem func133:prog.funcs[133]?=some Tryz.f133:=(same (by decide)).trans Tryz.func133
@[simp] theorem call133 (args:Array Value) (w:World):Sem.run prog (callFunc 133 args) w=.ok (.enter 133 args) w:=callB func133 (by kernel_rfl) (by kernel_rfl) args w
@[simp] theorem func134:prog.funcs[134]?=some Tryz.f134:=(same (by decide)).trans Tryz.func134
@[simp] theorem call134 (args:Array Value) (w:World):Sem.run prog (callFunc 134 args) w=.ok (.enter 134 args) w:=callB func134 (by kernel_rfl) (by kernel_rfl) args w
@[simp] theorem func138:prog.funcs[138]?=some Tryz.f138:=(same (by decide)).trans Tryz.func138
@[simp] theorem call138 (args:Array Value) (w:World):Sem.run prog (callFunc 138 args) w=.ok (.enter 138 args) w:=callB func138 (by kernel_rfl) (by kernel_rfl) args w
@[simp] theorem func139:prog.funcs[139]?=some Tryz.f139:=(same (by decide)).trans Tryz.func139
@[simp] theorem call139 (args:Array Value) (w:World):Sem.run prog (callFunc 139 args) w=.ok (.enter 139 args) w:=callB func139 (by kernel_rfl) (by kernel_rfl) args w
@[simp] theorem func140:prog.funcs[140]?=some Tryz.f140:=(same (by decide)).trans Tryz.func140
@[simp] theorem func141:prog.funcs[141]?=some Tryz.f141:=(same (by decide)).trans Tryz.func141
@[simp] theorem call141 (args:Array Value) (w:World):Sem.run prog (callFunc 141 args) w=.ok (.enter 141 args) w:=callB func141 (by kernel_rfl) (by kernel_rfl) args w
@[simp] theorem func142:prog.funcs[142]?=some Tryz.f142:=(same (by decide)).trans Tryz.func142
@[simp] theorem call142 (args:Array Value) (w:World):Sem.run prog (callFunc 142 args) w=.ok (.enter 142 args) w:=callB func142 (by kernel_rfl) (by kernel_rfl) args w
@[simp] theorem func143:prog.funcs[143]?=some Tryz.f143:=(same (by decide)).trans Tryz.func143
@[simp] theorem func144:prog.funcs[144]?=some Tryz.f144:=(same (by decide)).trans Tryz.func144
@[simp] theorem call144 (args:Array Value) (w:World):Sem.run prog (callFunc 144 args) w=.ok (.enter 144 args) w:=callB func144 (by kernel_rfl) (by kernel_rfl) args w
@[simp] theorem func145:prog.funcs[145]?=some Tryz.f145:=(same (by decide)).trans Tryz.func145
@[simp] theorem call145 (args:Array Value) (w:World):Sem.run prog (callFunc 145 args) w=.ok (.enter 145 args) w:=callB func145 (by kernel_rfl) (by kernel_rfl) args w
@[simp] theorem func146:prog.funcs[146]?=some Tryz.f146:=(same (by decide)).trans Tryz.func146
@[simp] theorem call146 (args:Array Value) (w:World):Sem.run prog (callFunc 146 args) w=.ok (.enter 146 args) w:=callB func146 (by kernel_rfl) (by kernel_rfl) args w
@[simp] theorem func152:prog.funcs[152]?=some Tryz.f152:=(same (by decide)).trans Tryz.func152
@[simp] theorem call152 (args:Array Value) (w:World):Sem.run prog (callFunc 152 args) w=.ok (.enter 152 args) w:=callB func152 (by kernel_rfl) (by kernel_rfl) args w
@[simp] theorem func156:prog.funcs[156]?=some Tryz.f156:=(same (by decide)).trans Tryz.func156
@[simp] theorem call156 (args:Array Value) (w:World):Sem.run prog (callFunc 156 args) w=.ok (.enter 156 args) w:=callB func156 (by kernel_rfl) (by kernel_rfl) args w
@[simp] theorem func157:prog.funcs[157]?=some Tryz.f157:=(same (by decide)).trans Tryz.func157
@[simp] theorem call157 (args:Array Value) (w:World):Sem.run prog (callFunc 157 args) w=.ok (.enter 157 args) w:=callB func157 (by kernel_rfl) (by kernel_rfl) args w
@[simp] theorem func158:prog.funcs[158]?=some Tryz.f158:=(same (by decide)).trans Tryz.func158
@[simp] theorem call158 (args:Array Value) (w:World):Sem.run prog (callFunc 158 args) w=.ok (.enter 158 args) w:=callB func158 (by kernel_rfl) (by kernel_rfl) args w
end Go.Proofs.YtokbalggdhippaaGreat.Vp
end

section
namespace Go.Proofs.YtokbalggdhippaaGreat
def inB (n lo hi:Int):Bool:=decide (lo ≤ n) && decide (n ≤ hi)
theorem inB_yes {n lo hi:Int} (h1:lo ≤ n) (h2:n ≤ hi):inB n lo hi=true:=by simp [inB,h1,h2]
theorem inB_no {n lo hi:Int} (h:¬ (lo ≤ n ∧ n ≤ hi)):inB n lo hi=false:=by
 cases e:inB n lo hi
 · rfl
 · simp only [inB,Bool.and_eq_true,decide_eq_true_eq] at e; exact absurd e h
end Go.Proofs.YtokbalggdhippaaGreat
end

section
namespace Go.Proofs.YtokbalggdhippaaGreat
open Go.RowKit
set_option maxHeartbeats 400000 in
theorem l6In_any (n lo hi:Int) (w:World):Calls Vp.prog 44 #[.int .i64 n,.int .i64 lo,.int .i64 hi] w fun e w' => e=.returned (.bool (inB n lo hi)) ∧ w=w':=by
 by_cases h1:lo ≤ n
 · by_cases h2:n ≤ hi
   · rw [inB_yes h1 h2]
     have h2':¬ hi < n:=by omega
     go_enter Vp.func44,Tryz.ntmps44
     go_wp2
     go_ret
     exact ⟨rfl,rfl⟩
   · rw [inB_no (by omega)]
     go_enter Vp.func44,Tryz.ntmps44
     go_wp2
     go_ret
     exact ⟨rfl,rfl⟩
 · rw [inB_no (by omega)]
   go_enter Vp.func44,Tryz.ntmps44
   go_wp2
   go_ret
   exact ⟨rfl,rfl⟩
end Go.Proofs.YtokbalggdhippaaGreat
end

section
namespace Go.Proofs.YtokbalggdhippaaGreat
open Go.RowKit
def byteV (x:UInt8):Value:=.int .u8 x.toNat
def Sl (W:World) (a:Option Addr) (xs:List Value):Prop:=xs=[] ∨ ∃ b off,a=some ⟨b,off,none⟩ ∧ ∀ i v,xs[i]?=some v → W.cell? ⟨b,off + i,none⟩=some v
theorem Sl.nil (W:World) (a:Option Addr):Sl W a []:=.inl rfl
theorem Sl.step {W W':World} {a:Option Addr} {xs:List Value} (h:Sl W a xs) (k:Below W.heap.size W W'):Sl W' a xs:=by
 rcases h with h | ⟨b,off,ha,h⟩
 · exact .inl h
 · refine .inr ⟨b,off,ha,fun i v hv => ?_⟩
   have h1:=h i v hv
   exact (k.cell (p:=⟨b,off + i,none⟩) (World.block_lt_of_cell? W _ h1)).trans h1
theorem Sl.drw {W W':World} {a:Option Addr} {xs:List Value} (h:Sl W a xs) (k:Drw W W'):Sl W' a xs:=h.step (k.below _)
theorem Sl.alloc {W:World} {a:Option Addr} {xs:List Value} (h:Sl W a xs) (o:Obj):Sl (W.alloc o) a xs:=h.step ((Below.refl _ _).alloc (Nat.le_refl _) _)
theorem Sl.at {W:World} {a:Option Addr} {xs:List Value} {i:Nat} {v:Value} (h:Sl W a xs) (hv:xs[i]?=some v):∃ b off,a=some ⟨b,off,none⟩ ∧ W.cell? ⟨b,off + i,none⟩=some v:=by
 rcases h with h | ⟨b,off,ha,h⟩
 · subst h; simp at hv
 · exact ⟨b,off,ha,h i v hv⟩
theorem Box.set {w0 W:World} {b:Nat} {C:Array Value} {T:TypeId} (h:Box w0 b C T W) (hb:w0.heap.size ≤ b) (j:Nat) (v:Value):Box w0 b (C.setIfInBounds j v) T (W.setCell ⟨b,j,none⟩ v):=by
 refine ⟨?_,h.old.setCell (p:=⟨b,j,none⟩) hb v⟩
 obtain ⟨hlt,he⟩:=Array.getElem?_eq_some_iff.1 h.blk
 show (W.heap.modify b _)[b]?=_
 rw [Array.getElem?_eq_getElem (by rw [Array.size_modify]; exact hlt),Array.getElem_modify_self,he]
 rfl
theorem Box.other {w0 W:World} {b:Nat} {C:Array Value} {T:TypeId} (h:Box w0 b C T W) {p:Addr} (hp:w0.heap.size ≤ p.block) (hne:b ≠ p.block) (v:Value):Box w0 b C T (W.setCell p v) :=
 ⟨(Below.heap_setCell W p v b hne).trans h.blk,h.old.setCell hp v⟩
theorem Box.up {w0 w1 W:World} {b:Nat} {C:Array Value} {T:TypeId} (h:Box w1 b C T W) (k:Below w0.heap.size w0 w1):Box w0 b C T W :=
 ⟨h.blk,k.trans (h.old.mono k.size)⟩
theorem size_set (W:World) (p:Addr) (v:Value):(W.setCell p v).heap.size=W.heap.size:=by simp [World.setCell]
end Go.Proofs.YtokbalggdhippaaGreat
end

section
namespace Go.Proofs.YtokbalggdhippaaGreat
open Go.RowKit
def boxOK (a b c d:Int):Bool:=inB a (-134217728) b && inB b a 134217728 && inB c (-134217728) d && inB d c 134217728
set_option maxHeartbeats 1000000 in
theorem boxValid_any (a b c d:Int) (w:World):Calls Vp.prog 79 #[.agg #[.int .i64 a,.int .i64 b,.int .i64 c,.int .i64 d]] w fun e w' => e=.returned (.bool (boxOK a b c d)) ∧ Below w.heap.size w w':=by
 have X:=Box.new w #[.int .i64 a,.int .i64 b,.int .i64 c,.int .i64 d] 101
 have x0:=X.cell 0 _ rfl
 have x1:=X.cell 1 _ rfl
 have x2:=X.cell 2 _ rfl
 have x3:=X.cell 3 _ rfl
 have HB:=Lib.hid X.old
 clear X
 unfold boxOK
 cases h1:inB a (-134217728) b with
 | false =>
   go_enter Vp.func79,Tryz.ntmps79
   go_wp2_with (go_at_call 44; refine (l6In_any _ _ _ _).mono ?_; rintro e w' ⟨rfl,rfl⟩)
   go_ret
   exact ⟨rfl,HB.out⟩
 | true =>
   cases h2:inB b a 134217728 with
   | false =>
     go_enter Vp.func79,Tryz.ntmps79
     go_wp2_with (go_at_call 44; refine (l6In_any _ _ _ _).mono ?_; rintro e w' ⟨rfl,rfl⟩)
     go_ret
     exact ⟨rfl,HB.out⟩
   | true =>
     cases h3:inB c (-134217728) d with
     | false =>
       go_enter Vp.func79,Tryz.ntmps79
       go_wp2_with (go_at_call 44; refine (l6In_any _ _ _ _).mono ?_; rintro e w' ⟨rfl,rfl⟩)
       go_ret
       exact ⟨rfl,HB.out⟩
     | true =>
       cases h4:inB d c 134217728 with
       | false =>
         go_enter Vp.func79,Tryz.ntmps79
         go_wp2_with (go_at_call 44; refine (l6In_any _ _ _ _).mono ?_; rintro e w' ⟨rfl,rfl⟩)
         go_ret
         exact ⟨rfl,HB.out⟩
       | true =>
         go_enter Vp.func79,Tryz.ntmps79
         go_wp2_with (go_at_call 44; refine (l6In_any _ _ _ _).mono ?_; rintro e w' ⟨rfl,rfl⟩)
         go_ret
         exact ⟨rfl,HB.out⟩
end Go.Proofs.YtokbalggdhippaaGreat
end
