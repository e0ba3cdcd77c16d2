/- Merged texts: Vp, TzB. -/
import Derived.Test.YthhfljldbfgpcaaGreatDoorProg
import Derived.ProofKit
import Derived.Test.YthhfljldbfgpcaaGreatDoorRows
import Derived.Test.YthhfljldbfgpcaaGreatDoorT1
import Derived.Laws.Bits64b
import Derived.Lib.TrailingZeros
import Derived.Shelf.Spec.TrailingZeros
set_option linter.all false
section
namespace Go.Proofs.YthhfljldbfgpcaaGreatDoor.Vp
open Go
def lay (id:Nat) (new:Array Oper):Code → Code
 | .region i ops d => if i == id then .region i new d else .region i ops d
 | .seq a b => .seq (lay id new a) (lay id new b)
 | .cond c a b => .cond c (lay id new a) (lay id new b)
 | .rangeFunc f p a b => .rangeFunc f p (lay id new a) (lay id new b)
 | .block i c => .block i (lay id new c)
 | .loop c => .loop (lay id new c)
 | .scope c => .scope (lay id new c)
 | c => c
def made:Array Oper:=#[
 { dst:=some 23,op:=.move (.tmp 0),type:=23,pos := "",after:=#[],guard:=none },
 { dst:=some 24,op:=.move (.tmp 1),type:=3,pos := "",after:=#[],guard:=none },
 { dst:=some 25,op:=.move (.tmp 2),type:=3,pos := "",after:=#[],guard:=none },
 { dst:=some 75,op:=.binOp .mul 3 (.tmp 25) (.tmp 25) 3,type:=3,pos := "",after:=#[],guard:=none },
 { dst:=some 26,op:=.makeSlice 26 (.const (.int .i64 0)) (.tmp 75),type:=26,pos := "",after:=#[],guard:=none },
 { dst:=some 27,op:=.makeSlice 27 (.const (.int .i64 0)) (.tmp 75),type:=27,pos := "",after:=#[],guard:=none },
 { dst:=some 28,op:=.build 29 #[(0,.tmp 23),(1,.tmp 24),(2,.tmp 25),(3,.tmp 26),(4,.tmp 27)],type:=29,pos := "",after:=#[],guard:=none },
 { dst:=some 10,op:=.alloc 29,type:=0,pos := "",after:=#[],guard:=none },
 { dst:=none,op:=.store 29 (.tmp 10) (.tmp 28),type:=0,pos := "",after:=#[],guard:=none }]
def guards:Array Oper:=#[
 { dst:=some 76,op:=.call { callee:=.builtin .real,args:=#[.tmp 0],argTypes:=#[23] },type:=42,pos := "",after:=#[],guard:=none },
 { dst:=some 80,op:=.binOp .lss 42 (.tmp 76) (.const (.float .f32 0)) 42,type:=42,pos := "",after:=#[],guard:=none },
 { dst:=some 77,op:=.binOp .mul 3 (.tmp 1) (.const (.int .i64 0)) 3,type:=3,pos := "",after:=#[],guard:=none },
 { dst:=some 78,op:=.binOp .mul 3 (.tmp 2) (.const (.int .i64 0)) 3,type:=3,pos := "",after:=#[],guard:=none },
 { dst:=some 79,op:=.binOp .mul 3 (.tmp 3) (.const (.int .i64 0)) 3,type:=3,pos := "",after:=#[],guard:=none }]
def guarded (c:Code):Code:=.seq (.region 90 guards false) (lay 3 made c)
noncomputable def fT:Func:={ Tryz.f5 with ntmps:=81,body:=Tryz.f6.body.map guarded }
noncomputable def prog:Program:={ Tryz.prog with funcs:=Tryz.prog.funcs.setIfInBounds 5 fT }
theorem tab_ (p:Program) (fs:Array Func):({ p with funcs:=fs }:Program).toTables=p.toTables:=rfl
@[simp] theorem tab:prog.toTables=Tryz.prog.toTables:=by unfold prog; exact tab_ _ _
theorem size_ (p:Program) (k:Nat) (f:Func):({ p with funcs:=p.funcs.setIfInBounds k f }:Program).funcs.size=p.funcs.size:=by simp
theorem size:prog.funcs.size=Tryz.prog.funcs.size:=by unfold prog; exact size_ _ _ _
theorem same_ (p:Program) {j k:Nat} (h:j ≠ k) (f:Func):({ p with funcs:=p.funcs.setIfInBounds k f }:Program).funcs[j]?=p.funcs[j]?:=Array.getElem?_setIfInBounds_ne (Ne.symm h)
theorem same {k:Nat} (h:k ≠ 5):prog.funcs[k]?=Tryz.prog.funcs[k]?:=by
 unfold prog
 exact same_ _ h _
theorem func_ (p:Program) {k:Nat} {g:Func} (h:p.funcs[k]?=some g) (f:Func):({ p with funcs:=p.funcs.setIfInBounds k f }:Program).funcs[k]?=some f:=Array.getElem?_setIfInBounds_self_of_lt (Array.getElem?_eq_some_iff.1 h).1
@[simp] theorem funcT:prog.funcs[5]?=some fT:=by
 unfold prog
 exact func_ _ Tryz.func5 _
@[simp] theorem ntmpsT:fT.ntmps=81:=rfl
theorem par_ (f:Func) (n:Nat) (b:Option Code):({ f with ntmps:=n,body:=b }:Func).params=f.params:=rfl
theorem res_ (f:Func) (n:Nat) (b:Option Code):({ f with ntmps:=n,body:=b }:Func).results=f.results:=rfl
theorem bod_ (f:Func) (n:Nat) (b:Option Code):({ f with ntmps:=n,body:=b }:Func).body=b:=rfl
@[simp] theorem paramsT:fT.params=Tryz.f5.params:=by unfold fT; exact par_ _ _ _
@[simp] theorem resultsT:fT.results=Tryz.f5.results:=by unfold fT; exact res_ _ _ _
theorem bodyT:fT.body=Tryz.f6.body.map guarded:=by unfold fT; exact bod_ _ _ _
@[simp] theorem underlying' (t:TypeId):prog.underlying t=Tryz.prog.underlying t:=by unfold Program.underlying; rw [tab]
theorem rb {α β:Type} (P:Program) (x:Sem α) (f:α → Sem β) (w:World):(x >>= f).run P w=match x.run P w with
   | .ok a w' => (f a).run P w'
   | .halt h w' => .halt h w':=by
 rw [Sem.run_bind]
 cases x.run P w <;> rfl
section
variable {p p':Program} (h:p'.toTables=p.toTables)
include h
theorem info_ (t:TypeId):p'.info? t=p.info? t:=by rw [h]
theorem und_ (t:TypeId):p'.underlying t=p.underlying t:=by unfold Program.underlying; rw [h]
theorem run_typeInfo_ (t:TypeId) (w:World):Sem.run p' (typeInfo t) w=Sem.run p (typeInfo t) w:=by
 unfold typeInfo
 rw [rb,rb,run_program,run_program]
 dsimp only
 rw [info_ h]
 cases p.info? t <;> rfl
theorem run_underlying_ (t:TypeId) (w:World):Sem.run p' (underlying t) w=Sem.run p (underlying t) w:=by
 unfold underlying
 rw [rb,rb,run_program,run_program]
 dsimp only
 rw [und_ h]
 cases p.underlying t <;> rfl
theorem run_sizeOf_ (t:TypeId) (w:World):Sem.run p' (sizeOf t) w=Sem.run p (sizeOf t) w:=by
 unfold sizeOf
 rw [rb,rb,run_typeInfo_ h]
 cases (typeInfo t).run p w <;> rfl
theorem run_isAgg_ (t:TypeId) (w:World):Sem.run p' (isAgg t) w=Sem.run p (isAgg t) w:=by
 unfold isAgg
 rw [rb,rb,run_underlying_ h]
 cases (underlying t).run p w with
 | ok a w => cases a <;> rfl
 | halt a w => rfl
theorem run_zeroValue_ (t:TypeId) (w:World):Sem.run p' (zeroValue t) w=Sem.run p (zeroValue t) w:=by
 unfold zeroValue
 rw [rb,rb,run_typeInfo_ h]
 cases (typeInfo t).run p w with
 | ok a w => dsimp only; cases a.zero <;> rfl
 | halt a w => rfl
end
@[simp] theorem run_underlying (t:TypeId) (w:World):Sem.run prog (underlying t) w=Sem.run Tryz.prog (underlying t) w:=run_underlying_ tab t w
@[simp] theorem run_typeInfo (t:TypeId) (w:World):Sem.run prog (typeInfo t) w=Sem.run Tryz.prog (typeInfo t) w:=run_typeInfo_ tab t w
@[simp] theorem run_sizeOf (t:TypeId) (w:World):Sem.run prog (sizeOf t) w=Sem.run Tryz.prog (sizeOf t) w:=run_sizeOf_ tab t w
@[simp] theorem run_isAgg (t:TypeId) (w:World):Sem.run prog (isAgg t) w=Sem.run Tryz.prog (isAgg t) w:=run_isAgg_ tab t w
@[simp] theorem run_zeroValue (t:TypeId) (w:World):Sem.run prog (zeroValue t) w=Sem.run Tryz.prog (zeroValue t) w:=run_zeroValue_ tab t w
theorem und {t:TypeId} {d:TypeDesc} (h:Tryz.prog.underlying t=some d):prog.underlying t=some d:=(underlying' t).trans h
theorem callB {P:Program} {k:Nat} {fn:Func} (h:P.funcs[k]?=some fn) (hn:(fn.name == "runtime.NumGoroutine")=false) (hb:fn.body.isNone=false) (args:Array Value) (w:World):Sem.run P (callFunc k args) w=.ok (.enter k args) w:=by
 have h1:¬ fn.name = "runtime.NumGoroutine" := by simpa using hn
 have h2:¬ fn.body=none:=by cases hx:fn.body <;> simp_all
 unfold callFunc
 simp [h,h1,h2]
@[simp] theorem callT (args:Array Value) (w:World):Sem.run prog (callFunc 5 args) w=.ok (.enter 5 args) w:=callB funcT (by kernel_rfl) (by kernel_rfl) args w
@[simp] theorem func3:prog.funcs[3]?=some Tryz.f3:=(same (by decide)).trans Tryz.func3
@[simp] theorem func4:prog.funcs[4]?=some Tryz.f4:=(same (by decide)).trans Tryz.func4
@[simp] theorem call4 (args:Array Value) (w:World):Sem.run prog (callFunc 4 args) w=.ok (.enter 4 args) w:=callB func4 (by kernel_rfl) (by kernel_rfl) args w
@[simp] theorem func6:prog.funcs[6]?=some Tryz.f6:=(same (by decide)).trans Tryz.func6
@[simp] theorem call6 (args:Array Value) (w:World):Sem.run prog (callFunc 6 args) w=.ok (.enter 6 args) w:=callB func6 (by kernel_rfl) (by kernel_rfl) args w
@[simp] theorem func7:prog.funcs[7]?=some Tryz.f7:=(same (by decide)).trans Tryz.func7
@[simp] theorem call7 (args:Array Value) (w:World):Sem.run prog (callFunc 7 args) w=.ok (.enter 7 args) w:=callB func7 (by kernel_rfl) (by kernel_rfl) args w
@[simp] theorem func8:prog.funcs[8]?=some Tryz.f8:=(same (by decide)).trans Tryz.func8
@[simp] theorem call8 (args:Array Value) (w:World):Sem.run prog (callFunc 8 args) w=.ok (.enter 8 args) w:=callB func8 (by kernel_rfl) (by kernel_rfl) args w
@[simp] theorem func9:prog.funcs[9]?=some Tryz.f9:=(same (by decide)).trans Tryz.func9
@[simp] theorem call9 (args:Array Value) (w:World):Sem.run prog (callFunc 9 args) w=.ok (.enter 9 args) w:=callB func9 (by kernel_rfl) (by kernel_rfl) args w
@[simp] theorem func10:prog.funcs[10]?=some Tryz.f10:=(same (by decide)).trans Tryz.func10
@[simp] theorem call10 (args:Array Value) (w:World):Sem.run prog (callFunc 10 args) w=.ok (.enter 10 args) w:=callB func10 (by kernel_rfl) (by kernel_rfl) args w
@[simp] theorem func11:prog.funcs[11]?=some Tryz.f11:=(same (by decide)).trans Tryz.func11
@[simp] theorem call11 (args:Array Value) (w:World):Sem.run prog (callFunc 11 args) w=.ok (.enter 11 args) w:=callB func11 (by kernel_rfl) (by kernel_rfl) args w
@[simp] theorem func12:prog.funcs[12]?=some Tryz.f12:=(same (by decide)).trans Tryz.func12
@[simp] theorem call12 (args:Array Value) (w:World):Sem.run prog (callFunc 12 args) w=.ok (.enter 12 args) w:=callB func12 (by kernel_rfl) (by kernel_rfl) args w
@[simp] theorem func13:prog.funcs[13]?=some Tryz.f13:=(same (by decide)).trans Tryz.func13
@[simp] theorem call13 (args:Array Value) (w:World):Sem.run prog (callFunc 13 args) w=.ok (.enter 13 args) w:=callB func13 (by kernel_rfl) (by kernel_rfl) args w
@[simp] theorem func14:prog.funcs[14]?=some Tryz.f14:=(same (by decide)).trans Tryz.func14
@[simp] theorem call14 (args:Array Value) (w:World):Sem.run prog (callFunc 14 args) w=.ok (.enter 14 args) w:=callB func14 (by kernel_rfl) (by kernel_rfl) args w
@[simp] theorem func15:prog.funcs[15]?=some Tryz.f15:=(same (by decide)).trans Tryz.func15
@[simp] theorem call15 (args:Array Value) (w:World):Sem.run prog (callFunc 15 args) w=.ok (.enter 15 args) w:=callB func15 (by kernel_rfl) (by kernel_rfl) args w
@[simp] theorem func16:prog.funcs[16]?=some Tryz.f16:=(same (by decide)).trans Tryz.func16
@[simp] theorem call16 (args:Array Value) (w:World):Sem.run prog (callFunc 16 args) w=.ok (.enter 16 args) w:=callB func16 (by kernel_rfl) (by kernel_rfl) args w
@[simp] theorem func17:prog.funcs[17]?=some Tryz.f17:=(same (by decide)).trans Tryz.func17
@[simp] theorem call17 (args:Array Value) (w:World):Sem.run prog (callFunc 17 args) w=.ok (.enter 17 args) w:=callB func17 (by kernel_rfl) (by kernel_rfl) args w
@[simp] theorem func18:prog.funcs[18]?=some Tryz.f18:=(same (by decide)).trans Tryz.func18
@[simp] theorem call18 (args:Array Value) (w:World):Sem.run prog (callFunc 18 args) w=.ok (.enter 18 args) w:=callB func18 (by kernel_rfl) (by kernel_rfl) args w
@[simp] theorem func19:prog.funcs[19]?=some Tryz.f19:=(same (by decide)).trans Tryz.func19
@[simp] theorem call19 (args:Array Value) (w:World):Sem.run prog (callFunc 19 args) w=.ok (.enter 19 args) w:=callB func19 (by kernel_rfl) (by kernel_rfl) args w
@[simp] theorem func20:prog.funcs[20]?=some Tryz.f20:=(same (by decide)).trans Tryz.func20
@[simp] theorem call20 (args:Array Value) (w:World):Sem.run prog (callFunc 20 args) w=.ok (.enter 20 args) w:=callB func20 (by kernel_rfl) (by kernel_rfl) args w
@[simp] theorem func22:prog.funcs[22]?=some Tryz.f22:=(same (by decide)).trans Tryz.func22
@[simp] theorem call22 (args:Array Value) (w:World):Sem.run prog (callFunc 22 args) w=.ok (.enter 22 args) w:=callB func22 (by kernel_rfl) (by kernel_rfl) args w
@[simp] theorem func23:prog.funcs[23]?=some Tryz.f23:=(same (by decide)).trans Tryz.func23
@[simp] theorem call23 (args:Array Value) (w:World):Sem.run prog (callFunc 23 args) w=.ok (.enter 23 args) w:=callB func23 (by kernel_rfl) (by kernel_rfl) args w
@[simp] theorem func24:prog.funcs[24]?=some Tryz.f24:=(same (by decide)).trans Tryz.func24
@[simp] theorem call24 (args:Array Value) (w:World):Sem.run prog (callFunc 24 args) w=.ok (.enter 24 args) w:=callB func24 (by kernel_rfl) (by kernel_rfl) args w
@[simp] theorem func25:prog.funcs[25]?=some Tryz.f25:=(same (by decide)).trans Tryz.func25
@[simp] theorem call25 (args:Array Value) (w:World):Sem.run prog (callFunc 25 args) w=.ok (.enter 25 args) w:=callB func25 (by kernel_rfl) (by kernel_rfl) args w
@[simp] theorem func26:prog.funcs[26]?=some Tryz.f26:=(same (by decide)).trans Tryz.func26
@[simp] theorem call26 (args:Array Value) (w:World):Sem.run prog (callFunc 26 args) w=.ok (.enter 26 args) w:=callB func26 (by kernel_rfl) (by kernel_rfl) args w
@[simp] theorem func27:prog.funcs[27]?=some Tryz.f27:=(same (by decide)).trans Tryz.func27
@[simp] theorem call27 (args:Array Value) (w:World):Sem.run prog (callFunc 27 args) w=.ok (.enter 27 args) w:=callB func27 (by kernel_rfl) (by kernel_rfl) args w
@[simp] theorem func28:prog.funcs[28]?=some Tryz.f28:=(same (by decide)).trans Tryz.func28
@[simp] theorem call28 (args:Array Value) (w:World):Sem.run prog (callFunc 28 args) w=.ok (.enter 28 args) w:=callB func28 (by kernel_rfl) (by kernel_rfl) args w
@[simp] theorem func29:prog.funcs[29]?=some Tryz.f29:=(same (by decide)).trans Tryz.func29
@[simp] theorem call29 (args:Array Value) (w:World):Sem.run prog (callFunc 29 args) w=.ok (.enter 29 args) w:=callB func29 (by kernel_rfl) (by kernel_rfl) args w
@[simp] theorem func30:prog.funcs[30]?=some Tryz.f30:=(same (by decide)).trans Tryz.func30
@[simp] theorem call30 (args:Array Value) (w:World):Sem.run prog (callFunc 30 args) w=.ok (.enter 30 args) w:=callB func30 (by kernel_rfl) (by kernel_rfl) args w
@[simp] theorem func31:prog.funcs[31]?=some Tryz.f31:=(same (by decide)).trans Tryz.func31
@[simp] theorem call31 (args:Array Value) (w:World):Sem.run prog (callFunc 31 args) w=.ok (.enter 31 args) w:=callB func31 (by kernel_rfl) (by kernel_rfl) args w
@[simp] theorem func32:prog.funcs[32]?=some Tryz.f32:=(same (by decide)).trans Tryz.func32
@[simp] theorem call32 (args:Array Value) (w:World):Sem.run prog (callFunc 32 args) w=.ok (.enter 32 args) w:=callB func32 (by kernel_rfl) (by kernel_rfl) args w
@[simp] theorem func33:prog.funcs[33]?=some Tryz.f33:=(same (by decide)).trans Tryz.func33
@[simp] theorem call33 (args:Array Value) (w:World):Sem.run prog (callFunc 33 args) w=.ok (.enter 33 args) w:=callB func33 (by kernel_rfl) (by kernel_rfl) args w
@[simp] theorem func34:prog.funcs[34]?=some Tryz.f34:=(same (by decide)).trans Tryz.func34
@[simp] theorem call34 (args:Array Value) (w:World):Sem.run prog (callFunc 34 args) w=.ok (.enter 34 args) w:=callB func34 (by kernel_rfl) (by kernel_rfl) args w
@[simp] theorem func35:prog.funcs[35]?=some Tryz.f35:=(same (by decide)).trans Tryz.func35
@[simp] theorem call35 (args:Array Value) (w:World):Sem.run prog (callFunc 35 args) w=.ok (.enter 35 args) w:=callB func35 (by kernel_rfl) (by kernel_rfl) args w
@[simp] theorem func36:prog.funcs[36]?=some Tryz.f36:=(same (by decide)).trans Tryz.func36
@[simp] theorem call36 (args:Array Value) (w:World):Sem.run prog (callFunc 36 args) w=.ok (.enter 36 args) w:=callB func36 (by kernel_rfl) (by kernel_rfl) args w
@[simp] theorem func37:prog.funcs[37]?=some Tryz.f37:=(same (by decide)).trans Tryz.func37
@[simp] theorem call37 (args:Array Value) (w:World):Sem.run prog (callFunc 37 args) w=.ok (.enter 37 args) w:=callB func37 (by kernel_rfl) (by kernel_rfl) args w
@[simp] theorem func38:prog.funcs[38]?=some Tryz.f38:=(same (by decide)).trans Tryz.func38
@[simp] theorem call38 (args:Array Value) (w:World):Sem.run prog (callFunc 38 args) w=.ok (.enter 38 args) w:=callB func38 (by kernel_rfl) (by kernel_rfl) args w
@[simp] theorem func39:prog.funcs[39]?=some Tryz.f39:=(same (by decide)).trans Tryz.func39
@[simp] theorem call39 (args:Array Value) (w:World):Sem.run prog (callFunc 39 args) w=.ok (.enter 39 args) w:=callB func39 (by kernel_rfl) (by kernel_rfl) args w
@[simp] theorem func40:prog.funcs[40]?=some Tryz.f40:=(same (by decide)).trans Tryz.func40
@[simp] theorem call40 (args:Array Value) (w:World):Sem.run prog (callFunc 40 args) w=.ok (.enter 40 args) w:=callB func40 (by kernel_rfl) (by kernel_rfl) args w
@[simp] theorem func41:prog.funcs[41]?=some Tryz.f41:=(same (by decide)).trans Tryz.func41
@[simp] theorem call41 (args:Array Value) (w:World):Sem.run prog (callFunc 41 args) w=.ok (.enter 41 args) w:=callB func41 (by kernel_rfl) (by kernel_rfl) args w
@[simp] theorem func42:prog.funcs[42]?=some Tryz.f42:=(same (by decide)).trans Tryz.func42
@[simp] theorem call42 (args:Array Value) (w:World):Sem.run prog (callFunc 42 args) w=.ok (.enter 42 args) w:=callB func42 (by kernel_rfl) (by kernel_rfl) args w
@[simp] theorem func43:prog.funcs[43]?=some Tryz.f43:=(same (by decide)).trans Tryz.func43
@[simp] theorem call43 (args:Array Value) (w:World):Sem.run prog (callFunc 43 args) w=.ok (.enter 43 args) w:=callB func43 (by kernel_rfl) (by kernel_rfl) args w
@[simp] theorem func44:prog.funcs[44]?=some Tryz.f44:=(same (by decide)).trans Tryz.func44
@[simp] theorem call44 (args:Array Value) (w:World):Sem.run prog (callFunc 44 args) w=.ok (.enter 44 args) w:=callB func44 (by kernel_rfl) (by kernel_rfl) args w
@[simp] theorem func45:prog.funcs[45]?=some Tryz.f45:=(same (by decide)).trans Tryz.func45
@[simp] theorem call45 (args:Array Value) (w:World):Sem.run prog (callFunc 45 args) w=.ok (.enter 45 args) w:=callB func45 (by kernel_rfl) (by kernel_rfl) args w
@[simp] theorem func46:prog.funcs[46]?=some Tryz.f46:=(same (by decide)).trans Tryz.func46
@[simp] theorem call46 (args:Array Value) (w:World):Sem.run prog (callFunc 46 args) w=.ok (.enter 46 args) w:=callB func46 (by kernel_rfl) (by kernel_rfl) args w
@[simp] theorem func47:prog.funcs[47]?=some Tryz.f47:=(same (by decide)).trans Tryz.func47
@[simp] theorem call47 (args:Array Value) (w:World):Sem.run prog (callFunc 47 args) w=.ok (.enter 47 args) w:=callB func47 (by kernel_rfl) (by kernel_rfl) args w
@[simp] theorem func48:prog.funcs[48]?=some Tryz.f48:=(same (by decide)).trans Tryz.func48
@[simp] theorem call48 (args:Array Value) (w:World):Sem.run prog (callFunc 48 args) w=.ok (.enter 48 args) w:=callB func48 (by kernel_rfl) (by kernel_rfl) args w
@[simp] theorem func49:prog.funcs[49]?=some Tryz.f49:=(same (by decide)).trans Tryz.func49
@[simp] theorem call49 (args:Array Value) (w:World):Sem.run prog (callFunc 49 args) w=.ok (.enter 49 args) w:=callB func49 (by kernel_rfl) (by kernel_rfl) args w
@[simp] theorem func50:prog.funcs[50]?=some Tryz.f50:=(same (by decide)).trans Tryz.func50
@[simp] theorem call50 (args:Array Value) (w:World):Sem.run prog (callFunc 50 args) w=.ok (.enter 50 args) w:=callB func50 (by kernel_rfl) (by kernel_rfl) args w
@[simp] theorem func51:prog.funcs[51]?=some Tryz.f51:=(same (by decide)).trans Tryz.func51
@[simp] theorem call51 (args:Array Value) (w:World):Sem.run prog (callFunc 51 args) w=.ok (.enter 51 args) w:=callB func51 (by kernel_rfl) (by kernel_rfl) args w
@[simp] theorem func52:prog.funcs[52]?=some Tryz.f52:=(same (by decide)).trans Tryz.func52
@[simp] theorem call52 (args:Array Value) (w:World):Sem.run prog (callFunc 52 args) w=.ok (.enter 52 args) w:=callB func52 (by kernel_rfl) (by kernel_rfl) args w
@[simp] theorem func53:prog.funcs[53]?=some Tryz.f53:=(same (by decide)).trans Tryz.func53
@[simp] theorem call53 (args:Array Value) (w:World):Sem.run prog (callFunc 53 args) w=.ok (.enter 53 args) w:=callB func53 (by kernel_rfl) (by kernel_rfl) args w
@[simp] theorem func54:prog.funcs[54]?=some Tryz.f54:=(same (by decide)).trans Tryz.func54
@[simp] theorem call54 (args:Array Value) (w:World):Sem.run prog (callFunc 54 args) w=.ok (.enter 54 args) w:=callB func54 (by kernel_rfl) (by kernel_rfl) args w
@[simp] theorem func55:prog.funcs[55]?=some Tryz.f55:=(same (by decide)).trans Tryz.func55
@[simp] theorem call55 (args:Array Value) (w:World):Sem.run prog (callFunc 55 args) w=.ok (.enter 55 args) w:=callB func55 (by kernel_rfl) (by kernel_rfl) args w
@[simp] theorem func56:prog.funcs[56]?=some Tryz.f56:=(same (by decide)).trans Tryz.func56
@[simp] theorem call56 (args:Array Value) (w:World):Sem.run prog (callFunc 56 args) w=.ok (.enter 56 args) w:=callB func56 (by kernel_rfl) (by kernel_rfl) args w
@[simp] theorem func57:prog.funcs[57]?=some Tryz.f57:=(same (by decide)).trans Tryz.func57
@[simp] theorem call57 (args:Array Value) (w:World):Sem.run prog (callFunc 57 args) w=.ok (.enter 57 args) w:=callB func57 (by kernel_rfl) (by kernel_rfl) args w
@[simp] theorem func58:prog.funcs[58]?=some Tryz.f58:=(same (by decide)).trans Tryz.func58
@[simp] theorem call58 (args:Array Value) (w:World):Sem.run prog (callFunc 58 args) w=.ok (.enter 58 args) w:=callB func58 (by kernel_rfl) (by kernel_rfl) args w
@[simp] theorem func59:prog.funcs[59]?=some Tryz.f59:=(same (by decide)).trans Tryz.func59
@[simp] theorem call59 (args:Array Value) (w:World):Sem.run prog (callFunc 59 args) w=.ok (.enter 59 args) w:=callB func59 (by kernel_rfl) (by kernel_rfl) args w
@[simp] theorem func60:prog.funcs[60]?=some Tryz.f60:=(same (by decide)).trans Tryz.func60
@[simp] theorem call60 (args:Array Value) (w:World):Sem.run prog (callFunc 60 args) w=.ok (.enter 60 args) w:=callB func60 (by kernel_rfl) (by kernel_rfl) args w
@[simp] theorem func61:prog.funcs[61]?=some Tryz.f61:=(same (by decide)).trans Tryz.func61
@[simp] theorem call61 (args:Array Value) (w:World):Sem.run prog (callFunc 61 args) w=.ok (.enter 61 args) w:=callB func61 (by kernel_rfl) (by kernel_rfl) args w
@[simp] theorem func62:prog.funcs[62]?=some Tryz.f62:=(same (by decide)).trans Tryz.func62
@[simp] theorem call62 (args:Array Value) (w:World):Sem.run prog (callFunc 62 args) w=.ok (.enter 62 args) w:=callB func62 (by kernel_rfl) (by kernel_rfl) args w
@[simp] theorem func64:prog.funcs[64]?=some Tryz.f64:=(same (by decide)).trans Tryz.func64
@[simp] theorem call64 (args:Array Value) (w:World):Sem.run prog (callFunc 64 args) w=.ok (.enter 64 args) w:=callB func64 (by kernel_rfl) (by kernel_rfl) args w
@[simp] theorem func65:prog.funcs[65]?=some Tryz.f65:=(same (by decide)).trans Tryz.func65
@[simp] theorem call65 (args:Array Value) (w:World):Sem.run prog (callFunc 65 args) w=.ok (.enter 65 args) w:=callB func65 (by kernel_rfl) (by kernel_rfl) args w
@[simp] theorem func66:prog.funcs[66]?=some Tryz.f66:=(same (by decide)).trans Tryz.func66
@[simp] theorem call66 (args:Array Value) (w:World):Sem.run prog (callFunc 66 args) w=.ok (.enter 66 args) w:=callB func66 (by kernel_rfl) (by kernel_rfl) args w
@[simp] theorem func67:prog.funcs[67]?=some Tryz.f67:=(same (by decide)).trans Tryz.func67
@[simp] theorem call67 (args:Array Value) (w:World):Sem.run prog (callFunc 67 args) w=.ok (.enter 67 args) w:=callB func67 (by kernel_rfl) (by kernel_rfl) args w
@[simp] theorem func68:prog.funcs[68]?=some Tryz.f68:=(same (by decide)).trans Tryz.func68
@[simp] theorem call68 (args:Array Value) (w:World):Sem.run prog (callFunc 68 args) w=.ok (.enter 68 args) w:=callB func68 (by kernel_rfl) (by kernel_rfl) args w
@[simp] theorem func69:prog.funcs[69]?=some Tryz.f69:=(same (by decide)).trans Tryz.func69
@[simp] theorem call69 (args:Array Value) (w:World):Sem.run prog (callFunc 69 args) w=.ok (.enter 69 args) w:=callB func69 (by kernel_rfl) (by kernel_rfl) args w
@[simp] theorem func70:prog.funcs[70]?=some Tryz.f70:=(same (by decide)).trans Tryz.func70
@[simp] theorem call70 (args:Array Value) (w:World):Sem.run prog (callFunc 70 args) w=.ok (.enter 70 args) w:=callB func70 (by kernel_rfl) (by kernel_rfl) args w
@[simp] theorem func71:prog.funcs[71]?=some Tryz.f71:=(same (by decide)).trans Tryz.func71
@[simp] theorem call71 (args:Array Value) (w:World):Sem.run prog (callFunc 71 args) w=.ok (.enter 71 args) w:=callB func71 (by kernel_rfl) (by kernel_rfl) args w
@[simp] theorem func72:prog.funcs[72]?=some Tryz.f72:=(same (by decide)).trans Tryz.func72
@[simp] theorem call72 (args:Array Value) (w:World):Sem.run prog (callFunc 72 args) w=.ok (.enter 72 args) w:=callB func72 (by kernel_rfl) (by kernel_rfl) args w
@[simp] theorem func73:prog.funcs[73]?=some Tryz.f73:=(same (by decide)).trans Tryz.func73
@[simp] theorem call73 (args:Array Value) (w:World):Sem.run prog (callFunc 73 args) w=.ok (.enter 73 args) w:=callB func73 (by kernel_rfl) (by kernel_rfl) args w
@[simp] theorem func74:prog.funcs[74]?=some Tryz.f74:=(same (by decide)).trans Tryz.func74
@[simp] theorem call74 (args:Array Value) (w:World):Sem.run prog (callFunc 74 args) w=.ok (.enter 74 args) w:=callB func74 (by kernel_rfl) (by kernel_rfl) args w
@[simp] theorem func75:prog.funcs[75]?=some Tryz.f75:=(same (by decide)).trans Tryz.func75
@[simp] theorem call75 (args:Array Value) (w:World):Sem.run prog (callFunc 75 args) w=.ok (.enter 75 args) w:=callB func75 (by kernel_rfl) (by kernel_rfl) args w
@[simp] theorem func76:prog.funcs[76]?=some Tryz.f76:=(same (by decide)).trans Tryz.func76
@[simp] theorem call76 (args:Array Value) (w:World):Sem.run prog (callFunc 76 args) w=.ok (.enter 76 args) w:=callB func76 (by kernel_rfl) (by kernel_rfl) args w
@[simp] theorem func77:prog.funcs[77]?=some Tryz.f77:=(same (by decide)).trans Tryz.func77
@[simp] theorem call77 (args:Array Value) (w:World):Sem.run prog (callFunc 77 args) w=.ok (.enter 77 args) w:=callB func77 (by kernel_rfl) (by kernel_rfl) args w
@[simp] theorem func78:prog.funcs[78]?=some Tryz.f78:=(same (by decide)).trans Tryz.func78
@[simp] theorem call78 (args:Array Value) (w:World):Sem.run prog (callFunc 78 args) w=.ok (.enter 78 args) w:=callB func78 (by kernel_rfl) (by kernel_rfl) args w
@[simp] theorem func79:prog.funcs[79]?=some Tryz.f79:=(same (by decide)).trans Tryz.func79
@[simp] theorem call79 (args:Array Value) (w:World):Sem.run prog (callFunc 79 args) w=.ok (.enter 79 args) w:=callB func79 (by kernel_rfl) (by kernel_rfl) args w
@[simp] theorem func80:prog.funcs[80]?=some Tryz.f80:=(same (by decide)).trans Tryz.func80
@[simp] theorem call80 (args:Array Value) (w:World):Sem.run prog (callFunc 80 args) w=.ok (.enter 80 args) w:=callB func80 (by kernel_rfl) (by kernel_rfl) args w
@[simp] theorem func81:prog.funcs[81]?=some Tryz.f81:=(same (by decide)).trans Tryz.func81
@[simp] theorem call81 (args:Array Value) (w:World):Sem.run prog (callFunc 81 args) w=.ok (.enter 81 args) w:=callB func81 (by kernel_rfl) (by kernel_rfl) args w
@[simp] theorem func82:prog.funcs[82]?=some Tryz.f82:=(same (by decide)).trans Tryz.func82
@[simp] theorem call82 (args:Array Value) (w:World):Sem.run prog (callFunc 82 args) w=.ok (.enter 82 args) w:=callB func82 (by kernel_rfl) (by kernel_rfl) args w
@[simp] theorem func83:prog.funcs[83]?=some Tryz.f83:=(same (by decide)).trans Tryz.func83
@[simp] theorem call83 (args:Array Value) (w:World):Sem.run prog (callFunc 83 args) w=.ok (.enter 83 args) w:=callB func83 (by kernel_rfl) (by kernel_rfl) args w
@[simp] theorem func84:prog.funcs[84]?=some Tryz.f84:=(same (by decide)).trans Tryz.func84
@[simp] theorem call84 (args:Array Value) (w:World):Sem.run prog (callFunc 84 args) w=.ok (.enter 84 args) w:=callB func84 (by kernel_rfl) (by kernel_rfl) args w
@[simp] theorem func85:prog.funcs[85]?=some Tryz.f85:=(same (by decide)).trans Tryz.func85
@[simp] theorem call85 (args:Array Value) (w:World):Sem.run prog (callFunc 85 args) w=.ok (.enter 85 args) w:=callB func85 (by kernel_rfl) (by kernel_rfl) args w
@[simp] theorem func86:prog.funcs[86]?=some Tryz.f86:=(same (by decide)).trans Tryz.func86
@[simp] theorem call86 (args:Array Value) (w:World):Sem.run prog (callFunc 86 args) w=.ok (.enter 86 args) w:=callB func86 (by kernel_rfl) (by kernel_rfl) args w
@[simp] theorem func88:prog.funcs[88]?=some Tryz.f88:=(same (by decide)).trans Tryz.func88
@[simp] theorem func89:prog.funcs[89]?=some Tryz.f89:=(same (by decide)).trans Tryz.func89
@[simp] theorem call89 (args:Array Value) (w:World):Sem.run prog (callFunc 89 args) w=.ok (.enter 89 args) w:=callB func89 (by kernel_rfl) (by kernel_rfl) args w
@[simp] theorem func90:prog.funcs[90]?=some Tryz.f90:=(same (by decide)).trans Tryz.func90
@[simp] theorem call90 (args:Array Value) (w:World):Sem.run prog (callFunc 90 args) w=.ok (.enter 90 args) w:=callB func90 (by kernel_rfl) (by kernel_rfl) args w
@[simp] theorem func91:prog.funcs[91]?=some Tryz.f91:=(same (by decide)).trans Tryz.func91
@[simp] theorem call91 (args:Array Value) (w:World):Sem.run prog (callFunc 91 args) w=.ok (.enter 91 args) w:=callB func91 (by kernel_rfl) (by kernel_rfl) args w
@[simp] theorem func92:prog.funcs[92]?=some Tryz.f92:=(same (by decide)).trans Tryz.func92
@[simp] theorem call92 (args:Array Value) (w:World):Sem.run prog (callFunc 92 args) w=.ok (.enter 92 args) w:=callB func92 (by kernel_rfl) (by kernel_rfl) args w
@[simp] theorem func93:prog.funcs[93]?=some Tryz.f93:=(same (by decide)).trans Tryz.func93
@[simp] theorem call93 (args:Array Value) (w:World):Sem.run prog (callFunc 93 args) w=.ok (.enter 93 args) w:=callB func93 (by kernel_rfl) (by kernel_rfl) args w
@[simp] theorem func94:prog.funcs[94]?=some Tryz.f94:=(same (by decide)).trans Tryz.func94
@[simp] theorem call94 (args:Array Value) (w:World):Sem.run prog (callFunc 94 args) w=.ok (.enter 94 args) w:=callB func94 (by kernel_rfl) (by kernel_rfl) args w
@[simp] theorem func95:prog.funcs[95]?=some Tryz.f95:=(same (by decide)).trans Tryz.func95
@[simp] theorem call95 (args:Array Value) (w:World):Sem.run prog (callFunc 95 args) w=.ok (.enter 95 args) w:=callB func95 (by kernel_rfl) (by kernel_rfl) args w
@[simp] theorem func96:prog.funcs[96]?=some Tryz.f96:=(same (by decide)).trans Tryz.func96
@[simp] theorem call96 (args:Array Value) (w:World):Sem.run prog (callFunc 96 args) w=.ok (.enter 96 args) w:=callB func96 (by kernel_rfl) (by kernel_rfl) args w
@[simp] theorem func97:prog.funcs[97]?=some Tryz.f97:=(same (by decide)).trans Tryz.func97
@[simp] theorem call97 (args:Array Value) (w:World):Sem.run prog (callFunc 97 args) w=.ok (.enter 97 args) w:=callB func97 (by kernel_rfl) (by kernel_rfl) args w
@[simp] theorem func98:prog.funcs[98]?=some Tryz.f98:=(same (by decide)).trans Tryz.func98
@[simp] theorem call98 (args:Array Value) (w:World):Sem.run prog (callFunc 98 args) w=.ok (.enter 98 args) w:=callB func98 (by kernel_rfl) (by kernel_rfl) args w
@[simp] theorem func99:prog.funcs[99]?=some Tryz.f99:=(same (by decide)).trans Tryz.func99
@[simp] theorem call99 (args:Array Value) (w:World):Sem.run prog (callFunc 99 args) w=.ok (.enter 99 args) w:=callB func99 (by kernel_rfl) (by kernel_rfl) args w
@[simp] theorem func102:prog.funcs[102]?=some Tryz.f102:=(same (by decide)).trans Tryz.func102
@[simp] theorem call102 (args:Array Value) (w:World):Sem.run prog (callFunc 102 args) w=.ok (.enter 102 args) w:=callB func102 (by kernel_rfl) (by kernel_rfl) args w
@[simp] theorem func103:prog.funcs[103]?=some Tryz.f103:=(same (by decide)).trans Tryz.func103
@[simp] theorem call103 (args:Array Value) (w:World):Sem.run prog (callFunc 103 args) w=.ok (.enter 103 args) w:=callB func103 (by kernel_rfl) (by kernel_rfl) args w
@[simp] theorem func104:prog.funcs[104]?=some Tryz.f104:=(same (by decide)).trans Tryz.func104
@[simp] theorem call104 (args:Array Value) (w:World):Sem.run prog (callFunc 104 args) w=.ok (.enter 104 args) w:=callB func104 (by kernel_rfl) (by kernel_rfl) args w
@[simp] theorem func105:prog.funcs[105]?=some Tryz.f105:=(same (by decide)).trans Tryz.func105
@[simp] theorem call105 (args:Array Value) (w:World):Sem.run prog (callFunc 105 args) w=.ok (.enter 105 args) w:=callB func105 (by kernel_rfl) (by kernel_rfl) args w
@[simp] theorem func106:prog.funcs[106]?=some Tryz.f106:=(same (by decide)).trans Tryz.func106
@[simp] theorem func107:prog.funcs[107]?=some Tryz.f107:=(same (by decide)).trans Tryz.func107
@[simp] theorem call107 (args:Array Value) (w:World):Sem.run prog (callFunc 107 args) w=.ok (.enter 107 args) w:=callB func107 (by kernel_rfl) (by kernel_rfl) args w
@[simp] theorem func108:prog.funcs[108]?=some Tryz.f108:=(same (by decide)).trans Tryz.func108
@[simp] theorem call108 (args:Array Value) (w:World):Sem.run prog (callFunc 108 args) w=.ok (.enter 108 args) w:=callB func108 (by kernel_rfl) (by kernel_rfl) args w
@[simp] theorem func110:prog.funcs[110]?=some Tryz.f110:=(same (by decide)).trans Tryz.func110
@[simp] theorem call110 (args:Array Value) (w:World):Sem.run prog (callFunc 110 args) w=.ok (.enter 110 args) w:=callB func110 (by kernel_rfl) (by kernel_rfl) args w
@[simp] theorem func111:prog.funcs[111]?=some Tryz.f111:=(same (by decide)).trans Tryz.func111
@[simp] theorem call111 (args:Array Value) (w:World):Sem.run prog (callFunc 111 args) w=.ok (.enter 111 args) w:=callB func111 (by kernel_rfl) (by kernel_rfl) args w
end Go.Proofs.YthhfljldbfgpcaaGreatDoor.Vp
end

section
namespace Go.Proofs.YthhfljldbfgpcaaGreatDoor
open Go.RowKit
def Tab (w:World):Prop:=∀ j,j < Lib.deBruijn64tab.length → w.cell? ⟨1,j,none⟩=some (.int .u8 (Lib.deBruijn64tab.getD j 0))
theorem Tab.step {w w':World} (h:Tab w) (k:Below w.heap.size w w'):Tab w':=fun j hj => (k.cell (World.block_lt_of_cell? w _ (h j hj))).trans (h j hj)
set_option maxHeartbeats 1000000 in
theorem tz64_core (x k idx:Nat) (w:World) (hz:((x:Int) == 0)=false)
   (key:IntKind.u64.wrap (bits BinOp.and IntKind.u64 (x:Int) (IntKind.u64.wrap (-(x:Int))) * 285870213051353865) / 288230376151711744=(idx:Int))
   (hi:idx < 64) (hk:k < 64) (hcell:w.cell? ⟨1,idx,none⟩=some (.int .u8 k)) :
   Calls Vp.prog 64 #[.int .u64 x] w fun e w' => e=.returned (.int .i64 k) ∧ w=w':=by
 go_enter Vp.func64,Tryz.ntmps64
 go_wp2_with (simp only [key])
 go_ret
 exact ⟨rfl,rfl⟩
theorem tz64_any (x:Nat) (hx0:x ≠ 0) (hx:x < 18446744073709551616) (w:World) (hT:Tab w) :
   Calls Vp.prog 64 #[.int .u64 x] w fun e w' => e=.returned (.int .i64 (Lib.ctz 64 x)) ∧ w=w':=by
 obtain ⟨hlow,hk⟩:=Lib.lowest_bit 64 x hx0 hx
 obtain ⟨hi,htab⟩:=Lib.deBruijn64_at _ hk
 have hcell:=hT _ hi
 rw [htab] at hcell
 exact tz64_core x _ _ w (by simp; omega) (tz64_key x _ hx hx0 hlow) hi hk hcell
end Go.Proofs.YthhfljldbfgpcaaGreatDoor
end
