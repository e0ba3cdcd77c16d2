import Derived.Test.YtlfleicchbgcmaaGreatProg
import Derived.ProofKit
import Derived.WalkKit
import Derived.WalkSpells
import Derived.WalkLawsBesides
import Derived.Lib.Hide
import Derived.Deep.QuietTactic
import Derived.BigQuiet
import Derived.Laws.MakeOwn
import Derived.Lib.FrozenHead
import Derived.Test.YtlfleicchbgcmaaGreatRows
import Derived.Laws.BitsAllLaws
import Derived.Deep.Cut
import Derived.Laws.FloatArith
import Derived.Laws.ComplexArith
import Derived.Test.YtlfleicchbgcmaaGreatZq0
import Derived.Test.YtlfleicchbgcmaaGreatZqK
set_option linter.all false
set_option maxHeartbeats 16000000
set_option maxRecDepth 100000
namespace Go.Proofs.YtlfleicchbgcmaaGreat
namespace Vp
open Go
def lay (id:Nat)(new:Array Oper):Code->Code
 | .region i ops d=>if i == id then .region i new d else .region i ops d
 | .seq a b=>.seq (lay id new a) (lay id new b)
 | .cond c a b=>.cond c (lay id new a) (lay id new b)
 | .rangeFunc f p a b=>.rangeFunc f p (lay id new a) (lay id new b)
 | .block i c=>.block i (lay id new c)
 | .loop c=>.loop (lay id new c)
 | .scope c=>.scope (lay id new c)
 | c=>c
def made:Array Oper:=#[
 { dst:=some 23,op:=.move (.tmp 0),type:=23,pos := "", after:=#[],guard:=none },
 { dst:=some 24,op:=.move (.tmp 1),type:=3,pos := "", after:=#[],guard:=none },
 { dst:=some 25,op:=.move (.tmp 2),type:=3,pos := "", after:=#[],guard:=none },
 { dst:=some 75,op:=.binOp .mul 3 (.tmp 25) (.tmp 25) 3,type:=3,pos := "", after:=#[],guard:=none },
 { dst:=some 26,op:=.makeSlice 33 (.const (.int .i64 0)) (.tmp 75),type:=33,pos := "", after:=#[],guard:=none },
 { dst:=some 27,op:=.makeSlice 27 (.const (.int .i64 0)) (.tmp 75),type:=27,pos := "", after:=#[],guard:=none },
 { dst:=some 28,op:=.build 35 #[(0,.tmp 23),(1,.tmp 24),(2,.tmp 25),(3,.tmp 26),(4,.tmp 27)],type:=35,pos := "", after:=#[],guard:=none },
 { dst:=some 10,op:=.alloc 35,type:=0,pos := "", after:=#[],guard:=none },
 { dst:=none,op:=.store 35 (.tmp 10) (.tmp 28),type:=0,pos := "", after:=#[],guard:=none }]
def guards:Array Oper:=#[
 { dst:=some 76,op:=.call { callee:=.builtin .real,args:=#[.tmp 0],argTypes:=#[23] },type:=74,pos := "", after:=#[],guard:=none },
 { dst:=some 80,op:=.binOp .lss 74 (.tmp 76) (.const (.float .f32 0)) 74,type:=74,pos := "", after:=#[],guard:=none },
 { dst:=some 77,op:=.binOp .mul 3 (.tmp 1) (.const (.int .i64 0)) 3,type:=3,pos := "", after:=#[],guard:=none },
 { dst:=some 78,op:=.binOp .mul 3 (.tmp 2) (.const (.int .i64 0)) 3,type:=3,pos := "", after:=#[],guard:=none },
 { dst:=some 79,op:=.binOp .mul 3 (.tmp 3) (.const (.int .i64 0)) 3,type:=3,pos := "", after:=#[],guard:=none }]
def guarded (c:Code):Code:=.seq (.region 90 guards false) (lay 3 made c)
noncomputable def fT:Func:={ Tryz.f15 with ntmps:=81,body:=Tryz.f18.body.map guarded }
def M1 (ids:List Nat):Code->Code
 | .region id ops d=>if ids.contains id then .refuse "unsupported: a function without a Go body is entered" else .region id ops d
 | .seq a b=>.seq (M1 ids a) (M1 ids b)
 | .cond c a b=>.cond c (M1 ids a) (M1 ids b)
 | .rangeFunc f p a b=>.rangeFunc f p (M1 ids a) (M1 ids b)
 | .block i c=>.block i (M1 ids c)
 | .loop c=>.loop (M1 ids c)
 | .scope c=>.scope (M1 ids c)
 | .refuse w=>.refuse w
 | .goto l=>.goto l
 | .skip=>.skip
 | .ret=>.ret
 | .exit i=>.exit i
 | .label l=>.label l
noncomputable def A2w:Func:={ Tryz.f40 with body:=Tryz.f40.body.map (M1 [7]) }
noncomputable def A2x:Func:={ Tryz.f62 with body:=Tryz.f62.body.map (M1 [2]) }
def Mo:List Nat:=[40,62]
noncomputable def prog:Program:={ Tryz.prog with funcs:=((Tryz.prog.funcs.setIfInBounds 15 fT).setIfInBounds 40 A2w).setIfInBounds 62 A2x }
theorem Ahx (p:Program)(fs:Array Func):({ p with funcs:=fs }:Program).toTables=p.toTables:=rfl
@[simp]theorem Oa:prog.toTables=Tryz.prog.toTables:=by unfold prog;exact Ahx _ _
theorem size:prog.funcs.size=Tryz.prog.funcs.size:=by unfold prog;simp
theorem same {k:Nat}(h:k≠15)(hc:Mo.contains k=false):prog.funcs[k]?=Tryz.prog.funcs[k]?:=by
 unfold prog;simp only[Mo,List.contains_cons,List.contains_nil,Bool.or_false,Bool.or_eq_false_iff,beq_eq_false_iff_ne,ne_eq]at hc;simp only[Ait]
 repeat' split
 all_goals first
  | omega
  | rfl
@[simp]theorem Pk:prog.funcs[15]?=some fT:=by
 unfold prog;have h:=(Ai2.1 Tryz.func15).1;simp[Ait,h]
@[simp]theorem func40:prog.funcs[40]?=some A2w:=by
 unfold prog;have h:=(Ai2.1 Tryz.func40).1;simp[Ait,h]
@[simp]theorem A9u:A2w.ntmps=Tryz.f40.ntmps:=rfl
@[simp]theorem Afs:A2w.params=Tryz.f40.params:=rfl
@[simp]theorem Af4:A2w.results=Tryz.f40.results:=rfl
@[simp]theorem func62:prog.funcs[62]?=some A2x:=by
 unfold prog;have h:=(Ai2.1 Tryz.func62).1;simp[Ait,h]
@[simp]theorem A9v:A2x.ntmps=Tryz.f62.ntmps:=rfl
@[simp]theorem Aft:A2x.params=Tryz.f62.params:=rfl
@[simp]theorem Af5:A2x.results=Tryz.f62.results:=rfl
theorem Abs (k:Nat)(h:Mo.contains k=true):∃(fn fn':Func) (c:Code) (ids:List Nat),Tryz.prog.funcs[k]?=some fn'/\prog.funcs[k]?=some fn/\fn.name=fn'.name/\fn.results=fn'.results/\fn.ntmps=fn'.ntmps/\fn'.body=some c/\fn.body=some (M1 ids c):=by
 simp only[Mo,List.contains_cons,List.contains_nil,Bool.or_false,Al2,beq_iff_eq]at h
 rcases h with rfl|rfl
 ·obtain⟨c,hc⟩:=Als.1 (show Tryz.f40.body.isSome=true by kernel_rfl)
  exact⟨A2w,Tryz.f40,c,[7],Tryz.func40,func40,rfl,rfl,rfl,hc,by unfold A2w;simp[hc]⟩
 ·obtain⟨c,hc⟩:=Als.1 (show Tryz.f62.body.isSome=true by kernel_rfl)
  exact⟨A2x,Tryz.f62,c,[2],Tryz.func62,func62,rfl,rfl,rfl,hc,by unfold A2x;simp[hc]⟩
@[simp]theorem A3h:fT.ntmps=81:=rfl
theorem Ahr (f:Func)(n:Nat)(b:Option Code):({ f with ntmps:=n,body:=b }:Func).params=f.params:=rfl
theorem Aht (f:Func)(n:Nat)(b:Option Code):({ f with ntmps:=n,body:=b }:Func).results=f.results:=rfl
theorem Aha (f:Func)(n:Nat)(b:Option Code):({ f with ntmps:=n,body:=b }:Func).body=b:=rfl
@[simp]theorem Ah3:fT.params=Tryz.f15.params:=by unfold fT;exact Ahr _ _ _
@[simp]theorem Nu:fT.results=Tryz.f15.results:=by unfold fT;exact Aht _ _ _
theorem Ado:fT.body=Tryz.f18.body.map guarded:=by unfold fT;exact Aha _ _ _
@[simp]theorem A29 (t:TypeId):prog.underlying t=Tryz.prog.underlying t:=by unfold Program.underlying;rw[Oa]
theorem rb {α β:Type}(P:Program)(x:Sem α)(f:α->Sem β)(w:World):(x >>= f).run P w=match x.run P w with
 | .ok a w'=>(f a).run P w'
 | .halt h w'=>.halt h w':=by
 rw[Sem.run_bind]
 cases x.run P w<;>rfl
section
variable {p p' : Program} (h : p'.toTables = p.toTables)
include h
theorem Agd (t:TypeId):p'.info? t=p.info? t:=by rw[h]
theorem Ahy (t:TypeId):p'.underlying t=p.underlying t:=by unfold Program.underlying;rw[h]
theorem Iq (t:TypeId)(w:World):Sem.run p' (typeInfo t) w=Sem.run p (typeInfo t) w:=by
 unfold typeInfo;rw[rb,rb,run_program,run_program];dsimp only;rw[Agd h]
 cases p.info? t<;>rfl
theorem K2 (t:TypeId)(w:World):Sem.run p' (underlying t) w=Sem.run p (underlying t) w:=by
 unfold underlying;rw[rb,rb,run_program,run_program];dsimp only;rw[Ahy h]
 cases p.underlying t<;>rfl
theorem A1m (t:TypeId)(w:World):Sem.run p' (sizeOf t) w=Sem.run p (sizeOf t) w:=by
 unfold sizeOf;rw[rb,rb,Iq h]
 cases (typeInfo t).run p w<;>rfl
theorem A3p (t:TypeId)(w:World):Sem.run p' (isAgg t) w=Sem.run p (isAgg t) w:=by
 unfold isAgg;rw[rb,rb,K2 h]
 cases (underlying t).run p w with
 | ok a w=>cases a<;>rfl
 | halt a w=>rfl
theorem Sr (t:TypeId)(w:World):Sem.run p' (zeroValue t) w=Sem.run p (zeroValue t) w:=by
 unfold zeroValue;rw[rb,rb,Iq h]
 cases (typeInfo t).run p w with
 | ok a w=>dsimp only;cases a.zero<;>rfl
 | halt a w=>rfl
end
@[simp]theorem run_underlying (t:TypeId)(w:World):Sem.run prog (underlying t) w=Sem.run Tryz.prog (underlying t) w:=K2 Oa t w
@[simp]theorem run_typeInfo (t:TypeId)(w:World):Sem.run prog (typeInfo t) w=Sem.run Tryz.prog (typeInfo t) w:=Iq Oa t w
@[simp]theorem run_sizeOf (t:TypeId)(w:World):Sem.run prog (sizeOf t) w=Sem.run Tryz.prog (sizeOf t) w:=A1m Oa t w
@[simp]theorem Bl (t:TypeId)(w:World):Sem.run prog (isAgg t) w=Sem.run Tryz.prog (isAgg t) w:=A3p Oa t w
@[simp]theorem Aj (t:TypeId)(w:World):Sem.run prog (zeroValue t) w=Sem.run Tryz.prog (zeroValue t) w:=Sr Oa t w
theorem Di {t:TypeId}{d:TypeDesc}(h:Tryz.prog.underlying t=some d):prog.underlying t=some d:=(A29 t).trans h
theorem Adp {P:Program}{k:Nat}{fn:Func}(h:P.funcs[k]?=some fn)(hn:(fn.name == "runtime.NumGoroutine") = false)(hb:fn.body.isNone=false)(args:Array Value)(w:World):Sem.run P (callFunc k args) w=.ok (.enter k args) w:=by
 have h1:¬fn.name = "runtime.NumGoroutine" := by simpa using hn
 have h2:¬fn.body=none:=by cases hx:fn.body<;>simp_all
 unfold callFunc;simp[h,h1,h2]
@[simp]theorem Ai0 (args:Array Value)(w:World):Sem.run prog (callFunc 15 args) w=.ok (.enter 15 args) w:=Adp Pk (by kernel_rfl) (by kernel_rfl) args w
abbrev FE (k:Nat)(f:Func):Prop:=prog.funcs[k]?=some f
abbrev CE (k:Nat):Prop:=∀(args:Array Value) (w:World),Sem.run prog (callFunc k args) w=.ok (.enter k args) w
theorem FX {k:Nat}{f:Func}(h:Tryz.prog.funcs[k]?=some f)(h_:k≠15:=by decide)(hc_:Mo.contains k=false:=by decide):FE k f:=(same h_ hc_).trans h
@[simp]theorem func3:FE 3 Tryz.f3:=FX Tryz.func3
@[simp]theorem func5:FE 5 Tryz.f5:=FX Tryz.func5
theorem CX {k:Nat}{f:Func}(h:FE k f)(hn:(f.name == "runtime.NumGoroutine") = false:=by kernel_rfl)(hb:f.body.isNone=false:=by kernel_rfl):CE k:=fun a w=>Adp h hn hb a w
@[simp]theorem call5:CE 5:=CX func5
@[simp]theorem func6:FE 6 Tryz.f6:=FX Tryz.func6
@[simp]theorem call6:CE 6:=CX func6
@[simp]theorem func7:FE 7 Tryz.f7:=FX Tryz.func7
@[simp]theorem call7:CE 7:=CX func7
@[simp]theorem func8:FE 8 Tryz.f8:=FX Tryz.func8
@[simp]theorem call8:CE 8:=CX func8
@[simp]theorem func9:FE 9 Tryz.f9:=FX Tryz.func9
@[simp]theorem call9:CE 9:=CX func9
@[simp]theorem func10:FE 10 Tryz.f10:=FX Tryz.func10
@[simp]theorem call10:CE 10:=CX func10
@[simp]theorem func12:FE 12 Tryz.f12:=FX Tryz.func12
@[simp]theorem call12:CE 12:=CX func12
@[simp]theorem func13:FE 13 Tryz.f13:=FX Tryz.func13
@[simp]theorem call13:CE 13:=CX func13
@[simp]theorem func14:FE 14 Tryz.f14:=FX Tryz.func14
@[simp]theorem call14:CE 14:=CX func14
@[simp]theorem func16:FE 16 Tryz.f16:=FX Tryz.func16
@[simp]theorem call16:CE 16:=CX func16
@[simp]theorem func17:FE 17 Tryz.f17:=FX Tryz.func17
@[simp]theorem call17:CE 17:=CX func17
@[simp]theorem func18:FE 18 Tryz.f18:=FX Tryz.func18
@[simp]theorem call18:CE 18:=CX func18
@[simp]theorem func19:FE 19 Tryz.f19:=FX Tryz.func19
@[simp]theorem call19:CE 19:=CX func19
@[simp]theorem func20:FE 20 Tryz.f20:=FX Tryz.func20
@[simp]theorem call20:CE 20:=CX func20
@[simp]theorem func21:FE 21 Tryz.f21:=FX Tryz.func21
@[simp]theorem call21:CE 21:=CX func21
@[simp]theorem func22:FE 22 Tryz.f22:=FX Tryz.func22
@[simp]theorem call22:CE 22:=CX func22
@[simp]theorem func23:FE 23 Tryz.f23:=FX Tryz.func23
@[simp]theorem call23:CE 23:=CX func23
@[simp]theorem func24:FE 24 Tryz.f24:=FX Tryz.func24
@[simp]theorem call24:CE 24:=CX func24
@[simp]theorem func25:FE 25 Tryz.f25:=FX Tryz.func25
@[simp]theorem call25:CE 25:=CX func25
@[simp]theorem func26:FE 26 Tryz.f26:=FX Tryz.func26
@[simp]theorem call26:CE 26:=CX func26
@[simp]theorem func27:FE 27 Tryz.f27:=FX Tryz.func27
@[simp]theorem call27:CE 27:=CX func27
@[simp]theorem func30:FE 30 Tryz.f30:=FX Tryz.func30
@[simp]theorem call30:CE 30:=CX func30
@[simp]theorem func31:FE 31 Tryz.f31:=FX Tryz.func31
@[simp]theorem call31:CE 31:=CX func31
@[simp]theorem func32:FE 32 Tryz.f32:=FX Tryz.func32
@[simp]theorem call32:CE 32:=CX func32
@[simp]theorem func34:FE 34 Tryz.f34:=FX Tryz.func34
@[simp]theorem call34:CE 34:=CX func34
@[simp]theorem func35:FE 35 Tryz.f35:=FX Tryz.func35
@[simp]theorem call35:CE 35:=CX func35
@[simp]theorem func36:FE 36 Tryz.f36:=FX Tryz.func36
@[simp]theorem call36:CE 36:=CX func36
@[simp]theorem func37:FE 37 Tryz.f37:=FX Tryz.func37
@[simp]theorem call37:CE 37:=CX func37
@[simp]theorem func38:FE 38 Tryz.f38:=FX Tryz.func38
@[simp]theorem call38:CE 38:=CX func38
@[simp]theorem func39:FE 39 Tryz.f39:=FX Tryz.func39
@[simp]theorem call39:CE 39:=CX func39
@[simp]theorem call40:CE 40:=CX func40
@[simp]theorem func41:FE 41 Tryz.f41:=FX Tryz.func41
@[simp]theorem call41:CE 41:=CX func41
@[simp]theorem func42:FE 42 Tryz.f42:=FX Tryz.func42
@[simp]theorem call42:CE 42:=CX func42
@[simp]theorem func43:FE 43 Tryz.f43:=FX Tryz.func43
@[simp]theorem call43:CE 43:=CX func43
@[simp]theorem func44:FE 44 Tryz.f44:=FX Tryz.func44
@[simp]theorem call44:CE 44:=CX func44
@[simp]theorem func45:FE 45 Tryz.f45:=FX Tryz.func45
@[simp]theorem call45:CE 45:=CX func45
@[simp]theorem func46:FE 46 Tryz.f46:=FX Tryz.func46
@[simp]theorem call46:CE 46:=CX func46
@[simp]theorem func47:FE 47 Tryz.f47:=FX Tryz.func47
@[simp]theorem call47:CE 47:=CX func47
@[simp]theorem func48:FE 48 Tryz.f48:=FX Tryz.func48
@[simp]theorem call48:CE 48:=CX func48
@[simp]theorem func49:FE 49 Tryz.f49:=FX Tryz.func49
@[simp]theorem call49:CE 49:=CX func49
@[simp]theorem func50:FE 50 Tryz.f50:=FX Tryz.func50
@[simp]theorem call50:CE 50:=CX func50
@[simp]theorem func51:FE 51 Tryz.f51:=FX Tryz.func51
@[simp]theorem call51:CE 51:=CX func51
@[simp]theorem func52:FE 52 Tryz.f52:=FX Tryz.func52
@[simp]theorem call52:CE 52:=CX func52
@[simp]theorem func53:FE 53 Tryz.f53:=FX Tryz.func53
@[simp]theorem call53:CE 53:=CX func53
@[simp]theorem func54:FE 54 Tryz.f54:=FX Tryz.func54
@[simp]theorem call54:CE 54:=CX func54
@[simp]theorem func55:FE 55 Tryz.f55:=FX Tryz.func55
@[simp]theorem call55:CE 55:=CX func55
@[simp]theorem func56:FE 56 Tryz.f56:=FX Tryz.func56
@[simp]theorem call56:CE 56:=CX func56
@[simp]theorem func57:FE 57 Tryz.f57:=FX Tryz.func57
@[simp]theorem call57:CE 57:=CX func57
@[simp]theorem func58:FE 58 Tryz.f58:=FX Tryz.func58
@[simp]theorem call58:CE 58:=CX func58
@[simp]theorem func59:FE 59 Tryz.f59:=FX Tryz.func59
@[simp]theorem call59:CE 59:=CX func59
@[simp]theorem func60:FE 60 Tryz.f60:=FX Tryz.func60
@[simp]theorem call60:CE 60:=CX func60
@[simp]theorem func61:FE 61 Tryz.f61:=FX Tryz.func61
@[simp]theorem call61:CE 61:=CX func61
@[simp]theorem call62:CE 62:=CX func62
@[simp]theorem func63:FE 63 Tryz.f63:=FX Tryz.func63
@[simp]theorem func64:FE 64 Tryz.f64:=FX Tryz.func64
@[simp]theorem func65:FE 65 Tryz.f65:=FX Tryz.func65
@[simp]theorem call65:CE 65:=CX func65
@[simp]theorem func66:FE 66 Tryz.f66:=FX Tryz.func66
@[simp]theorem call66:CE 66:=CX func66
@[simp]theorem func67:FE 67 Tryz.f67:=FX Tryz.func67
@[simp]theorem call67:CE 67:=CX func67
@[simp]theorem func68:FE 68 Tryz.f68:=FX Tryz.func68
@[simp]theorem call68:CE 68:=CX func68
@[simp]theorem func69:FE 69 Tryz.f69:=FX Tryz.func69
@[simp]theorem call69:CE 69:=CX func69
@[simp]theorem func70:FE 70 Tryz.f70:=FX Tryz.func70
@[simp]theorem call70:CE 70:=CX func70
@[simp]theorem func71:FE 71 Tryz.f71:=FX Tryz.func71
@[simp]theorem call71:CE 71:=CX func71
@[simp]theorem func72:FE 72 Tryz.f72:=FX Tryz.func72
@[simp]theorem call72:CE 72:=CX func72
@[simp]theorem func73:FE 73 Tryz.f73:=FX Tryz.func73
@[simp]theorem call73:CE 73:=CX func73
@[simp]theorem func74:FE 74 Tryz.f74:=FX Tryz.func74
@[simp]theorem call74:CE 74:=CX func74
@[simp]theorem func75:FE 75 Tryz.f75:=FX Tryz.func75
@[simp]theorem call75:CE 75:=CX func75
@[simp]theorem func76:FE 76 Tryz.f76:=FX Tryz.func76
@[simp]theorem call76:CE 76:=CX func76
@[simp]theorem func77:FE 77 Tryz.f77:=FX Tryz.func77
@[simp]theorem call77:CE 77:=CX func77
@[simp]theorem func78:FE 78 Tryz.f78:=FX Tryz.func78
@[simp]theorem call78:CE 78:=CX func78
@[simp]theorem func79:FE 79 Tryz.f79:=FX Tryz.func79
@[simp]theorem call79:CE 79:=CX func79
@[simp]theorem func80:FE 80 Tryz.f80:=FX Tryz.func80
@[simp]theorem call80:CE 80:=CX func80
@[simp]theorem func81:FE 81 Tryz.f81:=FX Tryz.func81
@[simp]theorem call81:CE 81:=CX func81
@[simp]theorem func82:FE 82 Tryz.f82:=FX Tryz.func82
@[simp]theorem func83:FE 83 Tryz.f83:=FX Tryz.func83
@[simp]theorem func84:FE 84 Tryz.f84:=FX Tryz.func84
@[simp]theorem func85:FE 85 Tryz.f85:=FX Tryz.func85
@[simp]theorem func86:FE 86 Tryz.f86:=FX Tryz.func86
@[simp]theorem func87:FE 87 Tryz.f87:=FX Tryz.func87
@[simp]theorem func88:FE 88 Tryz.f88:=FX Tryz.func88
@[simp]theorem func89:FE 89 Tryz.f89:=FX Tryz.func89
@[simp]theorem func90:FE 90 Tryz.f90:=FX Tryz.func90
@[simp]theorem func91:FE 91 Tryz.f91:=FX Tryz.func91
@[simp]theorem func92:FE 92 Tryz.f92:=FX Tryz.func92
@[simp]theorem call92:CE 92:=CX func92
@[simp]theorem func93:FE 93 Tryz.f93:=FX Tryz.func93
@[simp]theorem call93:CE 93:=CX func93
@[simp]theorem func94:FE 94 Tryz.f94:=FX Tryz.func94
@[simp]theorem call94:CE 94:=CX func94
@[simp]theorem func95:FE 95 Tryz.f95:=FX Tryz.func95
@[simp]theorem call95:CE 95:=CX func95
@[simp]theorem func96:FE 96 Tryz.f96:=FX Tryz.func96
@[simp]theorem call96:CE 96:=CX func96
@[simp]theorem func97:FE 97 Tryz.f97:=FX Tryz.func97
@[simp]theorem call97:CE 97:=CX func97
@[simp]theorem func98:FE 98 Tryz.f98:=FX Tryz.func98
@[simp]theorem call98:CE 98:=CX func98
@[simp]theorem func99:FE 99 Tryz.f99:=FX Tryz.func99
@[simp]theorem call99:CE 99:=CX func99
@[simp]theorem func100:FE 100 Tryz.f100:=FX Tryz.func100
@[simp]theorem call100:CE 100:=CX func100
@[simp]theorem func103:FE 103 Tryz.f103:=FX Tryz.func103
@[simp]theorem call103:CE 103:=CX func103
@[simp]theorem func104:FE 104 Tryz.f104:=FX Tryz.func104
@[simp]theorem call104:CE 104:=CX func104
@[simp]theorem func105:FE 105 Tryz.f105:=FX Tryz.func105
@[simp]theorem call105:CE 105:=CX func105
@[simp]theorem func106:FE 106 Tryz.f106:=FX Tryz.func106
@[simp]theorem call106:CE 106:=CX func106
@[simp]theorem func107:FE 107 Tryz.f107:=FX Tryz.func107
@[simp]theorem call107:CE 107:=CX func107
@[simp]theorem func108:FE 108 Tryz.f108:=FX Tryz.func108
@[simp]theorem call108:CE 108:=CX func108
@[simp]theorem func109:FE 109 Tryz.f109:=FX Tryz.func109
@[simp]theorem call109:CE 109:=CX func109
@[simp]theorem func110:FE 110 Tryz.f110:=FX Tryz.func110
@[simp]theorem call110:CE 110:=CX func110
@[simp]theorem func111:FE 111 Tryz.f111:=FX Tryz.func111
@[simp]theorem call111:CE 111:=CX func111
@[simp]theorem func112:FE 112 Tryz.f112:=FX Tryz.func112
@[simp]theorem call112:CE 112:=CX func112
@[simp]theorem func113:FE 113 Tryz.f113:=FX Tryz.func113
@[simp]theorem call113:CE 113:=CX func113
@[simp]theorem func114:FE 114 Tryz.f114:=FX Tryz.func114
@[simp]theorem call114:CE 114:=CX func114
@[simp]theorem func115:FE 115 Tryz.f115:=FX Tryz.func115
@[simp]theorem call115:CE 115:=CX func115
@[simp]theorem func116:FE 116 Tryz.f116:=FX Tryz.func116
@[simp]theorem func117:FE 117 Tryz.f117:=FX Tryz.func117
@[simp]theorem func118:FE 118 Tryz.f118:=FX Tryz.func118
@[simp]theorem func119:FE 119 Tryz.f119:=FX Tryz.func119
@[simp]theorem func120:FE 120 Tryz.f120:=FX Tryz.func120
@[simp]theorem func121:FE 121 Tryz.f121:=FX Tryz.func121
@[simp]theorem call121:CE 121:=CX func121
@[simp]theorem func122:FE 122 Tryz.f122:=FX Tryz.func122
@[simp]theorem call122:CE 122:=CX func122
@[simp]theorem func123:FE 123 Tryz.f123:=FX Tryz.func123
@[simp]theorem call123:CE 123:=CX func123
@[simp]theorem func127:FE 127 Tryz.f127:=FX Tryz.func127
@[simp]theorem call127:CE 127:=CX func127
@[simp]theorem func128:FE 128 Tryz.f128:=FX Tryz.func128
@[simp]theorem call128:CE 128:=CX func128
@[simp]theorem func129:FE 129 Tryz.f129:=FX Tryz.func129
@[simp]theorem func130:FE 130 Tryz.f130:=FX Tryz.func130
@[simp]theorem call130:CE 130:=CX func130
@[simp]theorem func131:FE 131 Tryz.f131:=FX Tryz.func131
@[simp]theorem call131:CE 131:=CX func131
@[simp]theorem func132:FE 132 Tryz.f132:=FX Tryz.func132
@[simp]theorem func133:FE 133 Tryz.f133:=FX Tryz.func133
@[simp]theorem call133:CE 133:=CX func133
@[simp]theorem func134:FE 134 Tryz.f134:=FX Tryz.func134
@[simp]theorem call134:CE 134:=CX func134
@[simp]theorem func135:FE 135 Tryz.f135:=FX Tryz.func135
@[simp]theorem call135:CE 135:=CX func135
@[simp]theorem func136:FE 136 Tryz.f136:=FX Tryz.func136
@[simp]theorem func137:FE 137 Tryz.f137:=FX Tryz.func137
@[simp]theorem call137:CE 137:=CX func137
@[simp]theorem func141:FE 141 Tryz.f141:=FX Tryz.func141
@[simp]theorem call141:CE 141:=CX func141
@[simp]theorem func142:FE 142 Tryz.f142:=FX Tryz.func142
@[simp]theorem call142:CE 142:=CX func142
@[simp]theorem func143:FE 143 Tryz.f143:=FX Tryz.func143
@[simp]theorem call143:CE 143:=CX func143
@[simp]theorem func164:FE 164 Tryz.f164:=FX Tryz.func164
@[simp]theorem func165:FE 165 Tryz.f165:=FX Tryz.func165
@[simp]theorem func166:FE 166 Tryz.f166:=FX Tryz.func166
@[simp]theorem func167:FE 167 Tryz.f167:=FX Tryz.func167
end Vp
section
open Go.RowKit
def Aq (w w':World):Prop:=∃n,w'=w.drewN n
theorem Aq.refl (w:World):Aq w w:=⟨0,rfl⟩
theorem Aq.trans {a b c:World}(h:Aq a b)(k:Aq b c):Aq a c:=by
 obtain⟨n,rfl⟩:=h;obtain⟨m,rfl⟩:=k
 exact⟨n+m,by rw[World.drewN_drewN]⟩
theorem Aq.drewN {a b:World}(h:Aq a b)(n:Nat):Aq a (b.drewN n):=h.trans ⟨n,rfl⟩
theorem Aq.drew {a b:World}(h:Aq a b):Aq a b.drew:=h.trans ⟨1,rfl⟩
theorem Aq.below {a b:World}(h:Aq a b)(B:Nat):Below B a b:=by
 obtain⟨n,rfl⟩:=h
 exact⟨rfl,rfl,rfl,Ai3 _,fun _ _=>rfl⟩
theorem Aq.heap {a b:World}(h:Aq a b):b.heap=a.heap:=by obtain⟨n,rfl⟩:=h;rfl
theorem Aa7 {P:Program}{f:FuncId}{args:Array Value}{w:World}{n:Nat}{v:Value}
 (h:Calls P f args (w.drewN n) fun e w'=>e=.returned v/\w.drewN n=w'):Calls P f args (w.drewN n) fun e w''=>e=.returned v/\∃m,w''=w.drewN m :=
 h.mono fun _ _ ⟨he,hm⟩=>⟨he,n,hm.symm⟩
structure A8 (w0:World)(b:Nat)(C:Array Value)(T:TypeId)(W:World):Prop where
 blk:W.heap[b]?=some (.cells C T (0,0))
 old:Below w0.heap.size w0 W
theorem A8.new (w:World)(C:Array Value)(T:TypeId):A8 w w.heap.size C T (w.alloc (.cells C T)) :=
 ⟨(MapKept.heap_alloc w _).1,(Aik _ _).alloc (Ai3 _) _⟩
theorem A8.lt {w0 W:World}{b:Nat}{C:Array Value}{T:TypeId}(h:A8 w0 b C T W):b<W.heap.size:=(Ai2.1 h.blk).1
theorem A8.step {w0 W W':World}{b:Nat}{C:Array Value}{T:TypeId}(h:A8 w0 b C T W)(k:Below W.heap.size W W'):A8 w0 b C T W' :=
 ⟨(k.block b h.lt).trans h.blk,h.old.trans (k.mono h.old.size)⟩
theorem A8.alloc {w0 W:World}{b:Nat}{C:Array Value}{T:TypeId}(h:A8 w0 b C T W)(o:Obj):A8 w0 b C T (W.alloc o) :=
 h.step ((Aik _ _).alloc (Ai3 _) _)
theorem A8.cell {w0 W:World}{b:Nat}{C:Array Value}{T:TypeId}(h:A8 w0 b C T W)(j:Nat)(v:Value)(hv:C[j]?=some v):W.cell? ⟨b,j,none⟩=some v:=by
 simp[World.cell?,h.blk,hv]
theorem A8.frozen {w0 W:World}{b:Nat}{C:Array Value}{T:TypeId}(h:A8 w0 b C T W)(j:Nat):W.frozen? ⟨b,j,none⟩=false:=by
 simp[World.frozen?,h.blk]
theorem Lt {k:IntKind}{a b:Int}(h:a=b):Ending.returned (.int k a)=.returned (.int k b):=by rw[h]
theorem Fp {a b:Bool}(h:a=b):Ending.returned (.bool a)=.returned (.bool b):=by rw[h]
end
section
open Go.RowKit
def Cz (x:UInt8):Value:=.int .u8 x.toNat
def Sl (W:World)(a:Option Addr)(xs:List Value):Prop:=xs=[]\/∃b off,a=some ⟨b,off,none⟩/\∀i v,xs[i]?=some v->W.cell? ⟨b,off+i,none⟩=some v
theorem Sl.nil (W:World)(a:Option Addr):Sl W a []:=.inl rfl
theorem Sl.step {W W':World}{a:Option Addr}{xs:List Value}(h:Sl W a xs)(k:Below W.heap.size W W'):Sl W' a xs:=by
 rcases h with h |⟨b,off,ha,h⟩
 ·exact .inl h
 ·refine .inr ⟨b,off,ha,fun i v hv=>?_⟩
  have h1:=h i v hv
  exact(k.cell (p:=⟨b,off+i,none⟩) (Aix W _ h1)).trans h1
theorem Sl.Vd {W W':World}{a:Option Addr}{xs:List Value}(h:Sl W a xs)(k:Aq W W'):Sl W' a xs:=h.step (k.below _)
theorem Sl.alloc {W:World}{a:Option Addr}{xs:List Value}(h:Sl W a xs)(o:Obj):Sl (W.alloc o) a xs:=h.step ((Aik _ _).alloc (Ai3 _) _)
theorem Sl.at {W:World}{a:Option Addr}{xs:List Value}{i:Nat}{v:Value}(h:Sl W a xs)(hv:xs[i]?=some v):∃b off,a=some ⟨b,off,none⟩/\W.cell? ⟨b,off+i,none⟩=some v:=by
 rcases h with h |⟨b,off,ha,h⟩
 ·subst h;simp at hv
 ·exact⟨b,off,ha,h i v hv⟩
theorem A8.set {w0 W:World}{b:Nat}{C:Array Value}{T:TypeId}(h:A8 w0 b C T W)(hb:w0.heap.size<=b)(j:Nat)(v:Value):A8 w0 b (C.setIfInBounds j v) T (W.setCell ⟨b,j,none⟩ v):=by
 refine⟨?_,h.old.setCell (p:=⟨b,j,none⟩) hb v⟩
 obtain⟨hlt,he⟩:=Ai2.1 h.blk
 show(W.heap.modify b _)[b]?=_
 rw[Ai8 (by rw[Array.size_modify];exact hlt),Array.getElem_modify_self,he]
 rfl
theorem A8.other {w0 W:World}{b:Nat}{C:Array Value}{T:TypeId}(h:A8 w0 b C T W){p:Addr}(hp:w0.heap.size<=p.block)(hne:b≠p.block)(v:Value):A8 w0 b C T (W.setCell p v) :=
 ⟨(Aju W p v b hne).trans h.blk,h.old.setCell hp v⟩
theorem A8.up {w0 w1 W:World}{b:Nat}{C:Array Value}{T:TypeId}(h:A8 w1 b C T W)(k:Below w0.heap.size w0 w1):A8 w0 b C T W :=
 ⟨h.blk,k.trans (h.old.mono k.size)⟩
end
section
open Go.RowKit
theorem Adk (a b:Nat)(ha:a<9223372036854775808)(hb:b<9223372036854775808):bits .xor .i64 (a:Int) (b:Int)=((a ^^^ b:Nat):Int):=by
 have hx:a ^^^ b<2^63:=Nat.xor_lt_two_pow (by omega) (by omega)
 show IntKind.i64.wrap ((BitVec.ofInt 64 (a:Int) ^^^ BitVec.ofInt 64 (b:Int)).toNat:Int)=_
 rw[BitVec.toNat_xor,ofInt_u64 a (by omega),ofInt_u64 b (by omega)]
 simp[IntKind.wrap,IntKind.bits,IntKind.signed]
 omega
theorem Adj (a b:Int)(ha:0<=a)(ha2:a<9223372036854775808)(hb:0<=b)(hb2:b<9223372036854775808):∃x,bits .xor .i64 a b=x/\0<=x/\x<9223372036854775808:=by
 obtain⟨A,rfl⟩:=Ajc ha;obtain⟨B,rfl⟩:=Ajc hb
 refine⟨_,Adk A B (by omega) (by omega),by omega,?_⟩
 have hx:A ^^^ B<2^63:=Nat.xor_lt_two_pow (by omega) (by omega)
 omega
structure By (b:Nat)(w w':World):Prop where
 os:w'.os=w.os
 tape:w'.tape=w.tape
 output:w'.output=w.output
 size:w.heap.size<=w'.heap.size
 block:∀k,k<w.heap.size->k≠b->w'.heap[k]?=w.heap[k]?
theorem By.refl (b:Nat)(w:World):By b w w:=⟨rfl,rfl,rfl,Ai3 _,fun _ _ _=>rfl⟩
theorem By.trans {b:Nat}{u v w:World}(h:By b u v)(k:By b v w):By b u w :=
 ⟨k.os.trans h.os,k.tape.trans h.tape,k.output.trans h.output,Ai5 h.size k.size,fun i hi hne=>(k.block i (Ai9 hi h.size) hne).trans (h.block i hi hne)⟩
theorem By.Aw {b:Nat}{u v:World}(h:Below u.heap.size u v):By b u v:=⟨h.os,h.tape,h.output,h.size,fun i hi _=>h.block i hi⟩
theorem By.setCell {b:Nat}{u v:World}(h:By b u v)(j:Nat)(x:Value):By b u (v.setCell ⟨b,j,none⟩ x):=by
 refine h.trans ⟨rfl,rfl,rfl,by simp,fun i _ hne=>Aju _ _ _ _ (by simpa using hne)⟩
def Rd (w0:World)(b:Nat)(p:Nat)(W:World):Prop :=
 ∃(a:Option Addr) (c:Nat) (bs:List UInt8),A8 w0 b #[.slice a bs.length c,.int .i64 p] 70 W/\Sl w0 a (bs.map Cz)/\w0.heap.size<=b/\bs.length<=2000
theorem Rd.below {w0:World}{b p:Nat}{W:World}(h:Rd w0 b p W):Below w0.heap.size w0 W:=by
 obtain⟨_,_,_,h,_⟩:=h;exact h.old
theorem Rd.step {w0:World}{b p:Nat}{W W':World}(h:Rd w0 b p W)(k:Below W.heap.size W W'):Rd w0 b p W':=by
 obtain⟨a,c,bs,h,r⟩:=h;exact⟨a,c,bs,h.step k,r⟩
theorem Rd.Vd {w0:World}{b p:Nat}{W W':World}(h:Rd w0 b p W)(k:Aq W W'):Rd w0 b p W':=h.step (k.below _)
theorem Xj (x:UInt8):(x.toNat:Int)<=255:=by have:=x.toNat_lt;omega
theorem Dg (w0:World)(b p:Nat)(k:Int)(hp:p<=1099511627776)(hk:k<=1099511627776)(W:World)(h:Rd w0 b p W) :
 Calls Vp.prog 14 #[.pointer (some ⟨b,0,none⟩),.int .i64 k] W fun e w'=>(∃r:Int,e=.returned (.int .i64 r)/\0<=r /\(r<k\/r=0))/\Rd w0 b (p+1) w'/\By b W w':=by
 obtain⟨a,c,bs,hB,hS,hb,hn⟩:=h;have c0:=hB.cell 0 _ rfl;have c1:=hB.cell 1 _ rfl;have f1:=hB.frozen 1;have hlt:=hB.lt;obtain⟨q,hq⟩:∃q:Int,q=(p:Int)+1:=⟨_,rfl⟩;have B2:=hB.set hb 1 (.int .i64 q);have O2:=(By.refl b W).setCell 1 (.int .i64 q);have S2:=Ai1 (hS.step B2.old)
 have HR:Hid (∀W',Aq (W.setCell ⟨b,1,none⟩ (.int .i64 q)) W'->Rd w0 b (p+1) W'/\By b W W'):=fun W' hd=>by
  refine⟨⟨a,c,bs,?_,hS,hb,hn⟩,O2.trans (By.Aw (hd.below _))⟩
  rw[show((p+1:Nat):Int)=q by omega]
  exact B2.step (hd.below _)
 have hlt2:=B2.lt;have d0:=B2.cell 0 _ rfl;have d1:=B2.cell 1 _ rfl;clear B2 O2 hS hB;obtain⟨n,hN⟩:∃n,bs.length=n:=⟨_,rfl⟩;rw[hN]at hn d0 d1;have HN:=Ai1 hN;clear hN
 go_enter Vp.func14,Tryz.ntmps14
 go_upto_region 2 with fail
 rw[<-hq];generalize W.setCell ⟨b,1,none⟩ (.int .i64 q)=W1 at *;clear c0 c1 f1 hlt
 by_cases hk1:k<1
 ·go_wp2
  go_ret
  exact⟨⟨0,rfl,by omega,.inr rfl⟩,HR.out _ (Aq.refl _)⟩
 by_cases hn0:n=0
 ·subst hn0
  go_wp2
  go_ret
  exact⟨⟨0,rfl,by omega,.inr rfl⟩,HR.out _ (Aq.refl _)⟩
 have hnb:((n:Int) == 0)=false:=by simpa using hn0
 by_cases hpn:q-1<n
 ·have hpl:p<bs.length:=by rw[HN.out];omega
  have hx:(bs.map Cz)[p]?=some (Cz (bs[p])):=by rw[Aiw,Aig hpl];rfl
  obtain⟨ab,ao,rfl,hc⟩:=S2.out.at hx;have hle:=Xj bs[p];unfold Cz at hc;clear hx S2;generalize bs[p]=x at *;have hx0:(0:Int)<=x.toNat:=by omega
  generalize (x.toNat:Int)=y at *;have hkb:(k == 0)=false:=by simp;omega
  obtain⟨r,hr⟩:∃r,y.tmod k=r:=⟨_,rfl⟩;have r0:0<=r:=by rw[<-hr];exact Int.tmod_nonneg _ (by omega)
  have r1:r<k:=by rw[<-hr];exact Int.tmod_lt_of_pos _ (by omega)
  go_wp2
  go_ret
  exact⟨⟨r,rfl,r0,.inl r1⟩,HR.out _ (Aq.refl _)⟩
 ·have hnp:(0:Int)<n:=by omega
  have hpn':decide ((p:Int)<n)=false:=by simp;omega
  have hpn2:decide (p<n)=false:=by simp;omega
  obtain⟨i,hi⟩:∃i,(p:Int).tmod n=i:=⟨_,rfl⟩;obtain⟨j,hj⟩:∃j,((p:Int)*7+3).tmod n=j:=⟨_,rfl⟩;obtain⟨l,hl⟩:∃l,(p:Int).tdiv n=l:=⟨_,rfl⟩;have i1:0<=i:=by rw[<-hi];exact Int.tmod_nonneg _ (by omega)
  have i2:i<n:=by rw[<-hi];exact Int.tmod_lt_of_pos _ hnp
  have j1:0<=j:=by rw[<-hj];exact Int.tmod_nonneg _ (by omega)
  have j2:j<n:=by rw[<-hj];exact Int.tmod_lt_of_pos _ hnp
  have l1:0<=l:=by rw[<-hl];exact Int.tdiv_nonneg (by omega) (by omega)
  have l2:l<=p:=by rw[<-hl,Ak8 (by omega)];exact Int.ediv_le_self _ (by omega)
  have hx1:(bs.map Cz)[i.toNat]?=some (Cz (bs[i.toNat]'(by rw[HN.out];omega))):=by rw[Aiw,Aig (by rw[HN.out];omega)];rfl
  have hx2:(bs.map Cz)[j.toNat]?=some (Cz (bs[j.toNat]'(by rw[HN.out];omega))):=by rw[Aiw,Aig (by rw[HN.out];omega)];rfl
  obtain⟨ab,ao,rfl,hc1⟩:=S2.out.at hx1;obtain⟨ab',ao',he,hc2⟩:=S2.out.at hx2;obtain⟨rfl,rfl⟩:ab=ab'/\ao=ao':=by injection he with he;injection he with h1 h2 _;exact⟨h1,h2⟩
  have b1:=Xj (bs[i.toNat]'(by rw[HN.out];omega))
  have b2:=Xj (bs[j.toNat]'(by rw[HN.out];omega))
  unfold Cz at hc1 hc2;have b3:(0:Int) <=((bs[i.toNat]'(by rw[HN.out];omega)).toNat:Int):=by omega
  have b4:(0:Int) <=((bs[j.toNat]'(by rw[HN.out];omega)).toNat:Int):=by omega
  clear hx1 hx2 he S2;generalize ((bs[i.toNat]'(by rw[HN.out];omega)).toNat:Int)=y1 at *
  generalize ((bs[j.toNat]'(by rw[HN.out];omega)).toNat:Int)=y2 at *
  go_upto_region 7 with fail
  go_quiet (fail)
  obtain⟨x,hx⟩:∃x,x=y1*131+y2*1117 +(p:Int)*29+l*53:=⟨_,rfl⟩;have x0:0<=x:=by omega
  have x1:x<9223372036854775808:=by omega
  rw[<-hx];obtain⟨u,hu⟩:∃u,x.tdiv 64=u:=⟨_,rfl⟩;have u0:0<=u:=by rw[<-hu];exact Int.tdiv_nonneg (by omega) (by omega)
  have u1:u<=x:=by rw[<-hu,Ak8 (by omega)];exact Int.ediv_le_self _ (by omega)
  obtain⟨v,hv,v0,v1⟩:=Adj x u x0 x1 u0 (by omega)
  obtain⟨r,hr⟩:∃r,v.tmod k=r:=⟨_,rfl⟩;have r0:0<=r:=by rw[<-hr];exact Int.tmod_nonneg _ (by omega)
  have r1:r<k:=by rw[<-hr];exact Int.tmod_lt_of_pos _ (by omega)
  have hkb:(k == 0)=false:=by simp;omega
  clear hx hi hj hl hc1 hc2 d0 d1
  go_wp2
  go_ret
  exact⟨⟨r,rfl,r0,.inl r1⟩,HR.out _ ((Aq.refl _).drewN _)⟩
theorem A9y (a:Option Addr)(c:Nat)(bs:List UInt8)(hn:bs.length<=1048576)(hc:bs.length<=c)(w:World)(hs:Sl w a (bs.map Cz)) :
 Calls Vp.prog 12 #[.slice a bs.length c] w fun e w'=>∃b,e=.returned (.pointer (some ⟨b,0,none⟩))/\b=w.heap.size/\Rd w b 0 w':=by
 obtain⟨n,hN⟩:∃n,bs.length=n:=⟨_,rfl⟩
 by_cases h:2000<n
 ·have HR:Hid (Rd w w.heap.size 0 (w.alloc (.cells #[.slice a 2000 c,.int .i64 0] 70))):=by
   have hl:(bs.take 2000).length=2000:=by simp;omega
   refine⟨a,c,bs.take 2000,?_,?_,Ai3 _,by omega⟩
   ·rw[hl];exact A8.new w _ _
   ·rcases hs with hs |⟨b,o,ha,hs⟩
    ·simp at hs;simp[hs]at hN;omega
    ·refine .inr ⟨b,o,ha,fun i v hv=>?_⟩
     refine hs i v ?_
     rw[List.map_take,List.getElem?_take]at hv
     split at hv
     ·exact hv
     ·cases hv
  obtain⟨ab,ao,rfl⟩:∃ab ao,a=some ⟨ab,ao,none⟩:=by
   rcases hs with hs |⟨b,o,ha,hs⟩
   ·simp at hs;simp[hs]at hN;omega
   ·exact⟨b,o,ha⟩
  rw[hN]at hn hc ⊢;have hc2:2000<=c:=by omega
  have hc3:(2000:Int)<=c:=by omega
  clear hN hs
  go_enter Vp.func12,Tryz.ntmps12
  go_wp2
  go_ret
  exact⟨_,rfl,rfl,HR.out⟩
 ·have HR:Hid (Rd w w.heap.size 0 (w.alloc (.cells #[.slice a n c,.int .i64 0] 70))) :=
   ⟨a,c,bs,by rw[hN];exact A8.new w _ _,hs,Ai3 _,by omega⟩
  rw[hN];clear hs;rw[hN]at hn hc;clear hN
  go_enter Vp.func12,Tryz.ntmps12
  go_wp2
  go_ret
  exact⟨_,rfl,rfl,HR.out⟩
end
end Go.Proofs.YtlfleicchbgcmaaGreat
section
namespace Go.Proofs.YtlfleicchbgcmaaGreat
namespace Flo
open Ieee
def re (f:Format)(r:Nat):Nat:=r / f.binade-1
def rm (f:Format)(r:Nat):Nat:=r-re f r*f.binade
def rv (f:Format)(r:Nat):Nat:=rm f r*2^re f r
theorem Dp (f:Format):0<f.binade:=Aib _
theorem Ago (f:Format)(r:Nat):re f r*f.binade<=r:=by
 unfold re
 calc (r / f.binade-1)*f.binade<=r / f.binade*f.binade:=Ai7 _ (Nat.sub_le _ _)
  _<=r:=Nat.div_mul_le_self _ _
theorem Yo (f:Format)(r:Nat):r=re f r*f.binade+rm f r:=by
 have:=Ago f r;unfold rm;omega
theorem Nw (f:Format)(r:Nat):rm f r<2*f.binade:=by
 unfold rm re;have hp:=Dp f;have h1:=Nat.div_add_mod r f.binade;have h2:=Akz r hp;have h3:f.binade *(r / f.binade)=(r / f.binade)*f.binade:=Aj7 _ _
 cases hq:r / f.binade with
 | zero=>rw[hq]at h1;simp at h1;simp;omega
 | succ q =>
   rw[hq]at h1 h3;simp only[Amk];rw[Akc]at h3
   omega
theorem Wg (f:Format)(r:Nat)(h:0<re f r):f.binade<=rm f r:=by
 have hp:=Dp f;unfold rm;unfold re at h ⊢;have h1:=Nat.div_add_mod r f.binade;have h3:f.binade *(r / f.binade)=(r / f.binade)*f.binade:=Aj7 _ _
 cases hq:r / f.binade with
 | zero=>rw[hq]at h;omega
 | succ q =>
   rw[hq]at h1 h3;simp only[Amk];rw[Akc]at h3
   omega
theorem Xo {neg:Bool}{n drop m:Nat}(h:n<=m*2^drop):Toward.even.cut neg n drop<=m:=by
 unfold Toward.cut;simp only
 by_cases hd:drop<=n.log2+2
 ·rw[Akm hd,Am2];have hp:0<2^drop:=Aib _;have h1:=Nat.div_add_mod n (2^drop);have h2:=Akz n hp;have hq:n / 2^drop<=m:=Nat.div_le_of_le_mul (by rw[Aj7];exact h)
  by_cases he:n / 2^drop=m
  ·rw[he]at h1;have h0:n % 2^drop=0:=by rw[Aj7]at h1;omega
   simp only[h0]
   have hf:(decide (2^drop<2*0) ||(2^drop == 2*0 && n / 2^drop % 2 == 1))=false:=by
    simp
   rw[hf];simpa using hq
  ·cases (decide (2^drop<2 *(n % 2^drop)) ||(2^drop == 2 *(n % 2^drop) && n / 2^drop % 2 == 1))<;>simp<;>omega
 ·have hd':n.log2+2<=drop:=by omega
  rw[Nat.min_eq_right hd',Am2];have hlt:n<2^(n.log2+1):=Aln;have h2:2^(n.log2+2)=2*2^(n.log2+1):=by rw[Alc];omega
  have hm:n % 2^(n.log2+2)=n:=Akr (by omega)
  have hq:n / 2^(n.log2+2)=0:=Ama (by omega)
  rw[hm,hq]
  have hf:(decide (2^(n.log2+2)<2*n) ||(2^(n.log2+2) == 2*n && 0 % 2 == 1))=false:=by
   simp;omega
  rw[hf];simp
theorem A8w {neg:Bool}{n drop m:Nat}(h:m*2^drop<=n):m<=Toward.even.cut neg n drop:=by
 unfold Toward.cut;simp only
 by_cases hd:drop<=n.log2+2
 ·rw[Akm hd,Am2];have hp:0<2^drop:=Aib _;have hq:m<=n / 2^drop:=(Nat.le_div_iff_mul_le hp).2 h
  omega
 ·have hlt:n<2^(n.log2+1):=Aln;have hpp:2^(n.log2+1)<=2^drop:=Ain (by omega) (by omega)
  have:m=0:=by
   cases m with
   | zero=>rfl
   | succ m=>rw[Akc]at h;omega
  rw[this];exact Aj9 _
def E8 (f:Format)(mag:Nat)(place:Int):Int:=max (place+mag.log2-f.fractionBits) f.leastPlace
def rnd (f:Format)(neg:Bool)(mag:Nat)(place:Int):Nat :=
 if mag=0 then 0 else min ((E8 f mag place-f.leastPlace).toNat*f.binade+Toward.even.cut neg (mag <<<(place-E8 f mag place).toNat) (E8 f mag place-place).toNat) f.infRung
theorem D9 (f:Format)(neg:Bool)(mag:Nat)(place:Int):f.nearest neg mag place=f.word neg (rnd f neg mag place):=by
 unfold Format.nearest rnd E8
 split<;>rfl
theorem Sp (f:Format)(neg:Bool)(mag:Nat)(place:Int):rnd f neg mag place<=f.infRung:=by
 unfold rnd;split
 ·omega
 ·exact Nat.min_le_right _ _
theorem Vb (f:Format)(mag:Nat)(place:Int):mag*2^(place-E8 f mag place).toNat<2*f.binade*2^(E8 f mag place-place).toNat:=by
 have hl:mag<2^(mag.log2+1):=Aln;unfold E8;generalize hL:max (place+mag.log2-f.fractionBits) f.leastPlace=L;have h1:place+mag.log2-f.fractionBits<=L:=by omega
 unfold Format.binade
 rcases Ale place L with h|h
 ·have e1:(place-L).toNat=0:=by omega
  rw[e1];have:mag.log2+1<=1+f.fractionBits +(L-place).toNat:=by omega
  calc mag*2^0=mag:=by simp
   _<2^(mag.log2+1):=hl
   _<=2^(1+f.fractionBits +(L-place).toNat):=Ain (by omega) this
   _=2*2^f.fractionBits*2^(L-place).toNat:=by rw[Ail,Ail,Nat.pow_one]
 ·have e1:(L-place).toNat=0:=by omega
  rw[e1];have:mag.log2+1 +(place-L).toNat<=1+f.fractionBits:=by omega
  calc mag*2^(place-L).toNat<2^(mag.log2+1)*2^(place-L).toNat:=Akl hl (Aib _)
   _=2^(mag.log2+1 +(place-L).toNat):=by rw[<-Ail]
   _<=2^(1+f.fractionBits):=Ain (by omega) this
   _=2*2^f.fractionBits*2^0:=by rw[Ail];simp
theorem Va (f:Format)(mag:Nat)(place:Int)(h0:mag≠0)(hl:f.leastPlace<E8 f mag place):f.binade*2^(E8 f mag place-place).toNat<=mag*2^(place-E8 f mag place).toNat:=by
 have hg:2^mag.log2<=mag:=Nat.log2_self_le h0;unfold E8 at hl ⊢;generalize hL:max (place+mag.log2-f.fractionBits) f.leastPlace=L at *;have h1:place+mag.log2-f.fractionBits=L:=by omega
 unfold Format.binade
 rcases Ale place L with h|h
 ·have e1:(place-L).toNat=0:=by omega
  rw[e1];have:f.fractionBits +(L-place).toNat=mag.log2:=by omega
  calc 2^f.fractionBits*2^(L-place).toNat=2^mag.log2:=by rw[<-Ail,this]
   _<=mag*2^0:=by simpa using hg
 ·have e1:(L-place).toNat=0:=by omega
  rw[e1];have:mag.log2 +(place-L).toNat=f.fractionBits:=by omega
  calc 2^f.fractionBits*2^0=2^mag.log2*2^(place-L).toNat:=by rw[<-Ail,<-Ail,this];simp
   _<=mag*2^(place-L).toNat:=Ai7 _ hg
theorem Yj {f:Format}{neg:Bool}{mag:Nat}{place:Int}{r a b:Nat}(hp:place-f.leastPlace=(a:Int)-b)(h:mag*2^a<=rv f r*2^b):rnd f neg mag place<=r:=by
 unfold rnd
 split
 ·omega
 ·rename_i h0
  refine Ai5 (Nat.min_le_left _ _) ?_
  have hd:=Vb f mag place;have hge:=Va f mag place h0;have hlast:f.leastPlace<=E8 f mag place:=by unfold E8;omega
  generalize E8 f mag place=L at *;obtain⟨t,ht⟩:∃t:Nat,(t:Int)=L-f.leastPlace:=⟨(L-f.leastPlace).toNat,by omega⟩
  have et:(L-f.leastPlace).toNat=t:=by omega
  rw[et,Al7];obtain⟨u,hu⟩:∃u:Nat,(place-L).toNat=u:=⟨_,rfl⟩;obtain⟨v,hv⟩:∃v:Nat,(L-place).toNat=v:=⟨_,rfl⟩;rw[hu,hv]at hd hge ⊢;have hk:a+v=b+t+u:=by omega
  have hx:mag*2^u*2^t<=rv f r*2^v:=by
   have h2:mag*2^a*2^v<=rv f r*2^b*2^v:=Ai7 _ h
   have e1:mag*2^a*2^v=mag*2^u*2^t*2^b:=by
    rw[Aiy,<-Ail,hk,Ail,Ail];simp only[Aiy,Aj7,Aky]
   have e2:rv f r*2^b*2^v=rv f r*2^v*2^b:=Akt _ _ _;rw[e1,e2]at h2
   exact Ak7 h2 (Aib _)
  have hrv:rv f r=rm f r*2^re f r:=rfl;have hreq:=Yo f r;have hbp:=Dp f
  rcases Am3 (re f r) t with hlt|heq|hgt
  ·
   exfalso
   have h3:=hge (by omega)
   have h4:=Nw f r
   have h5:rv f r<f.binade*2^t:=by
    rw[hrv]
    calc rm f r*2^re f r<2*f.binade*2^re f r:=Akl h4 (Aib _)
     _=f.binade*2^(re f r+1):=by rw[Alc];simp only[Aiy,Aj7,Aky]
     _<=f.binade*2^t:=Anc _ (Ain (by omega) hlt)
   have h6:f.binade*2^v*2^t<=mag*2^u*2^t:=Ai7 _ h3;have h7:rv f r*2^v<f.binade*2^t*2^v:=Akl h5 (Aib _);have h8:f.binade*2^t*2^v=f.binade*2^v*2^t:=Akt _ _ _
   omega
  ·
   rw[heq]at hrv hreq
   have h9:mag*2^u<=rm f r*2^v:=by
    have e3:rm f r*2^t*2^v=rm f r*2^v*2^t:=Akt _ _ _;rw[hrv,e3]at hx
    exact Ak7 hx (Aib _)
   have:=Xo (neg:=neg) h9
   omega
  ·have h4:=Wg f r (by omega)
   have h9:mag*2^u<=2*f.binade*2^v:=Aku hd;have h10:=Xo (neg:=neg) h9;have h11:(t+1)*f.binade<=re f r*f.binade:=Ai7 _ hgt;rw[Akc]at h11
   omega
theorem Yi {f:Format}{neg:Bool}{mag:Nat}{place:Int}{r a b:Nat}(hr:r<=f.infRung)(hp:place-f.leastPlace=(a:Int)-b)(h:rv f r*2^b<=mag*2^a):r<=rnd f neg mag place:=by
 unfold rnd;have hrv:rv f r=rm f r*2^re f r:=rfl;have hreq:=Yo f r;have hbp:=Dp f
 split
 ·rename_i h0
  subst h0;have:rm f r*2^re f r*2^b=0:=by rw[hrv]at h;omega
  have h1:rm f r=0:=by
   rcases Nat.mul_eq_zero.1 this with h|h
   ·rcases Nat.mul_eq_zero.1 h with h|h
    ·exact h
    ·exact absurd h (Nat.ne_of_gt (Aib _))
   ·exact absurd h (Nat.ne_of_gt (Aib _))
  have h2:re f r=0:=by
   rcases Ajr (re f r)with h|h
   ·exact h
   ·have:=Wg f r h;omega
  rw[h1,h2]at hreq
  omega
 ·rename_i h0
  refine Nat.le_min.2 ⟨?_,hr⟩
  have hd:=Vb f mag place;have hge:=Va f mag place h0;have hlast:f.leastPlace<=E8 f mag place:=by unfold E8;omega
  generalize E8 f mag place=L at *;obtain⟨t,ht⟩:∃t:Nat,(t:Int)=L-f.leastPlace:=⟨(L-f.leastPlace).toNat,by omega⟩
  have et:(L-f.leastPlace).toNat=t:=by omega
  rw[et,Al7];obtain⟨u,hu⟩:∃u:Nat,(place-L).toNat=u:=⟨_,rfl⟩;obtain⟨v,hv⟩:∃v:Nat,(L-place).toNat=v:=⟨_,rfl⟩;rw[hu,hv]at hd hge ⊢;have hk:a+v=b+t+u:=by omega
  have hx:rv f r*2^v<=mag*2^u*2^t:=by
   have h2:rv f r*2^b*2^v<=mag*2^a*2^v:=Ai7 _ h
   have e1:mag*2^a*2^v=mag*2^u*2^t*2^b:=by
    rw[Aiy,<-Ail,hk,Ail,Ail];simp only[Aiy,Aj7,Aky]
   have e2:rv f r*2^b*2^v=rv f r*2^v*2^b:=Akt _ _ _;rw[e1,e2]at h2
   exact Ak7 h2 (Aib _)
  rcases Am3 (re f r) t with hlt|heq|hgt
  ·have h3:=hge (by omega)
   have h4:=Nw f r;have h10:=A8w (neg:=neg) h3;have h11:(re f r+1)*f.binade<=t*f.binade:=Ai7 _ hlt;rw[Akc]at h11
   omega
  ·rw[heq]at hrv hreq
   have h9:rm f r*2^v<=mag*2^u:=by
    rw[hrv,Akt]at hx
    exact Ak7 hx (Aib _)
   have:=A8w (neg:=neg) h9
   omega
  ·exfalso
   have h4:=Wg f r (by omega)
   have h5:2*f.binade*2^t<=rv f r:=by
    rw[hrv]
    calc 2*f.binade*2^t=f.binade*2^(t+1):=by rw[Alc];simp only[Aiy,Aj7,Aky]
     _<=f.binade*2^re f r:=Anc _ (Ain (by omega) hgt)
     _<=rm f r*2^re f r:=Ai7 _ h4
   have h6:mag*2^u*2^t<2*f.binade*2^v*2^t:=Akl hd (Aib _);have h7:2*f.binade*2^t*2^v<=rv f r*2^v:=Ai7 _ h5;have h8:2*f.binade*2^t*2^v=2*f.binade*2^v*2^t:=Akt _ _ _
   omega
theorem A7c {f:Format}{neg:Bool}{mag:Nat}{place:Int}{r a b:Nat}(hr:r<=f.infRung)(hp:place-f.leastPlace=(a:Int)-b)(h:mag*2^a=rv f r*2^b):rnd f neg mag place=r :=
 Nat.le_antisymm (Yj hp (Al3 h)) (Yi hr hp (Al3 h.symm))
def Ae (f:Format)(x:Nat):Nat:=x % f.signWeight
def Ht (f:Format)(x:Nat):Bool:=x / f.signWeight % 2 == 1
def fin (f:Format)(x:Nat):Prop:=Ae f x<f.infRung
def iv (f:Format)(x:Nat):Int:=if Ht f x then -(rv f (Ae f x):Int)else rv f (Ae f x)
theorem Ax {f:Format}{x:Nat}(h:fin f x):f.read x=.number (Ht f x) (rm f (Ae f x)) (f.leastPlace+re f (Ae f x)):=by
 unfold fin at h;unfold Format.read;simp only;rw[show x % f.signWeight=Ae f x from rfl];have hbp:=Dp f;have hreq:=Yo f (Ae f x)
 split
 ·rename_i hl
  have e0:re f (Ae f x)=0:=by unfold re;rw[Ama hl]
  rw[e0]at hreq ⊢;have:rm f (Ae f x)=Ae f x:=by omega
  rw[this];simp[Ht]
 ·rename_i hl
  try rw[Aij h]
  have h1:=Nat.div_add_mod (Ae f x) f.binade;have h3:f.binade *(Ae f x / f.binade)=(Ae f x / f.binade)*f.binade:=Aj7 _ _;have hpos:1<=Ae f x / f.binade:=(Nat.le_div_iff_mul_le hbp).2 (by omega)
  have e:rm f (Ae f x)=f.binade+Ae f x % f.binade:=by
   unfold rm re;obtain⟨q,hq⟩:∃q,Ae f x / f.binade=q+1:=⟨Ae f x / f.binade-1,by omega⟩
   rw[hq]at h1 h3 ⊢;simp only[Amk];rw[Akc]at h3
   omega
  rw[e];rfl
theorem Sy (f:Format):0<f.signWeight:=Aib _
theorem Oz (f:Format)(s:Bool)(r:Nat)(h:r<f.signWeight):Ae f (f.word s r)=r:=by
 unfold Ae Format.word
 split
 ·rw[Nat.add_mod_left];exact Akr h
 ·exact Akr h
theorem Aaj (f:Format)(s:Bool)(r:Nat)(h:r<f.signWeight):Ht f (f.word s r)=s:=by
 unfold Ht Format.word;have hp:=Sy f
 cases s
 ·simp[Ama h]
 ·have:(f.signWeight+r) / f.signWeight=1:=by rw[Nat.add_div_left _ hp,Ama h]
  simp[this]
theorem Nj (f:Format)(s:Bool)(r:Nat)(h:r<f.infRung):fin f (f.word s r)/\iv f (f.word s r)=if s then -(rv f r:Int)else rv f r:=by
 have hl:=Nat.lt_trans h (Format.infRung_lt f)
 constructor
 ·unfold fin;rw[Oz f s r hl];exact h
 ·unfold iv;rw[Oz f s r hl,Aaj f s r hl]
theorem Zu (a b:Int)(c:Nat)(h:0<c):compare (a*c) (b*c)=compare a b:=by
 have hc:(0:Int)<c:=by omega
 rcases Alj a b with hl|he|hg
 ·rw[Am4.2 hl,Am4.2 (Int.mul_lt_mul_of_pos_right hl hc)]
 ·rw[he,Amt.2 rfl,Amt.2 rfl]
 ·rw[Am5.2 hg,Am5.2 (Int.mul_lt_mul_of_pos_right hg hc)]
theorem Cc (s:Bool)(m i c:Nat):signed s m (i+c)=signed s m i *(2^c:Nat):=by
 have e:m <<<(i+c)=m <<< i*2^c:=by rw[Al7,Al7,Ail,Aiy]
 unfold signed;rw[e]
 cases s
 ·simp
 ·simp[Alr]
theorem Du (f:Format)(x:Nat):signed (Ht f x) (rm f (Ae f x)) (re f (Ae f x))=iv f x:=by
 unfold signed iv rv;rw[Al7]
theorem A73 {f:Format}{x y:Nat}(hx:fin f x)(hy:fin f y):f.order x y=some (compare (iv f x) (iv f y)):=by
 unfold Format.order;rw[Ax hx,Ax hy];simp only[Datum.order,Ajj];have hi:=Du f x;have hj:=Du f y;generalize re f (Ae f x)=i at *;generalize re f (Ae f y)=j at *;generalize rm f (Ae f x)=m at *;generalize rm f (Ae f y)=n at *;obtain⟨b,hb⟩:∃b:Nat,min (f.leastPlace +(i:Int)) (f.leastPlace +(j:Int))=f.leastPlace+b:=⟨min i j,by omega⟩
 rw[hb];obtain⟨i',hi'⟩:∃i',i=i'+b:=⟨i-b,by omega⟩
 obtain⟨j',hj'⟩:∃j',j=j'+b:=⟨j-b,by omega⟩
 have e1:(f.leastPlace +(i:Int)-(f.leastPlace+b)).toNat=i':=by omega
 have e2:(f.leastPlace +(j:Int)-(f.leastPlace+b)).toNat=j':=by omega
 rw[e1,e2,<-hi,<-hj,hi',hj',Cc,Cc,Zu _ _ _ (Aib _)]
structure Cu (f:Format)(x:Nat)(v:Int):Prop where
 lt:x<2^f.width
 fin:fin f x
 iv:iv f x=v
def Oe (f:Format)(v:Int):Prop:=∃r,r<f.infRung/\rv f r=v.natAbs
theorem Cu.rep {f:Format}{x:Nat}{v:Int}(h:Cu f x v):Oe f v:=by
 refine⟨Ae f x,h.fin,?_⟩
 rw[<-h.iv];unfold Flo.iv
 split<;>simp
theorem Fa {f:Format}{s:Bool}{mag:Nat}{place:Int}{a b:Nat}{v:Int}(hr:Oe f v)(hp:place-f.leastPlace=(a:Int)-b)(h:mag*2^a=v.natAbs*2^b)(hs:v<0->s=true)(hs':0<v->s=false):Cu f (f.nearest s mag place) v:=by
 obtain⟨r,hr,hv⟩:=hr;have hx:=A7c (neg:=s) (Aku hr) hp (by rw[h,hv])
 have hw:=Nj f s r hr
 refine⟨Format.nearest_lt _ _ _ _,?_,?_⟩
 ·rw[D9,hx];exact hw.1
 ·rw[D9,hx,hw.2,hv]
  rcases Alj v 0 with h|h|h
  ·rw[hs h];simp;omega
  ·subst h;simp
  ·rw[hs' h];simp;omega
theorem Ad6 {f:Format}{s t:Bool}{m n i j:Nat}{a b:Int}(hi:signed s m i=a)(hj:signed t n j=b)(hr:Oe f (a+b)) :
 ∃z,((Datum.number s m (f.leastPlace+i)).sum (Datum.number t n (f.leastPlace+j))).map f.write=some z/\Cu f z (a+b):=by
 simp only[Datum.sum,Akw,Format.write]
 refine⟨_,rfl,?_⟩
 obtain⟨c,hc⟩:∃c:Nat,min (f.leastPlace +(i:Int)) (f.leastPlace +(j:Int))=f.leastPlace+c:=⟨min i j,by omega⟩
 rw[hc];obtain⟨i',hi'⟩:∃i',i=i'+c:=⟨i-c,by omega⟩
 obtain⟨j',hj'⟩:∃j',j=j'+c:=⟨j-c,by omega⟩
 have e1:(f.leastPlace +(i:Int)-(f.leastPlace+c)).toNat=i':=by omega
 have e2:(f.leastPlace +(j:Int)-(f.leastPlace+c)).toNat=j':=by omega
 rw[e1,e2];rw[hi',Cc]at hi;rw[hj',Cc]at hj;generalize signed s m i'=p at *;generalize signed t n j'=q at *;have hsum:(p+q) *(2^c:Nat)=a+b:=by rw[Alg,hi,hj]
 have hp:(0:Int) <(2^c:Nat):=by have:=Aib c;omega
 refine Fa (a:=c) (b:=0) hr (by omega) ?_ ?_ ?_
 ·rw[<-hsum,Ais];simp
 ·intro hneg
  have:p+q<0:=by
   rcases Akj (p+q) 0 with h|h
   ·exact h
   ·have:=Ak0 h (Alf hp);omega
  rw[Aid (by omega)];simpa using this
 ·intro hpos
  have:0<p+q:=by
   rcases Akj 0 (p+q)with h|h
   ·exact h
   ·have:=Int.mul_nonpos_of_nonpos_of_nonneg h (Alf hp);omega
  rw[Aid (by omega)];simp;omega
theorem Abj {f:Format}{x y:Nat}{a b:Int}(hx:Cu f x a)(hy:Cu f y b)(hr:Oe f (a+b)):∃z,f.add x y=some z/\Cu f z (a+b):=by
 unfold Format.add;rw[Ax hx.fin,Ax hy.fin]
 exact Ad6 ((Du f x).trans hx.iv) ((Du f y).trans hy.iv) hr
theorem A3t (s:Bool)(m i:Nat):signed (!s) m i=-signed s m i:=by cases s<;>simp[signed]
theorem sign_mul (s t:Bool)(p q:Nat):((if s then -(p:Int)else p) *(if t then -(q:Int)else q)<0 ->(s ^^ t)=true) /\(0 <(if s then -(p:Int)else p) *(if t then -(q:Int)else q) ->(s ^^ t)=false):=by
 have h:=Ak0 (Alz p) (Alz q);have e1:-(p:Int)*q=-((p:Int)*q):=Alr _ _;have e2:(p:Int)*-(q:Int)=-((p:Int)*q):=Int.mul_neg _ _;have e3:-(p:Int)*-(q:Int)=(p:Int)*q:=Int.neg_mul_neg _ _
 cases s<;>cases t<;>simp only[Aj8,Alx,Amg]<;>refine⟨fun h=>?_,fun h=>?_⟩<;>first|rfl |(exfalso;first|omega |(rw[e3]at h;omega) |(rw[e1]at h;omega) |(rw[e2]at h;omega))
theorem natAbs_sign (s:Bool)(p:Nat):(if s then -(p:Int)else p).natAbs=p:=by cases s<;>simp
theorem Gx {f:Format}{x y:Nat}{a b c:Int}{l:Nat}(hl:f.leastPlace=-(l:Int))(hx:Cu f x a)(hy:Cu f y b)(hc:a*b=c *(2^l:Nat))(hr:Oe f c):∃z,f.mul x y=some z/\Cu f z c:=by
 have hi:=hx.iv;have hj:=hy.iv;unfold Flo.iv rv at hi hj;unfold Format.mul;rw[Ax hx.fin,Ax hy.fin];simp only[Datum.product,Akw,Format.write]
 refine⟨_,rfl,?_⟩
 generalize re f (Ae f x)=i at *;generalize re f (Ae f y)=j at *;generalize rm f (Ae f x)=m at *;generalize rm f (Ae f y)=n at *;have hpl:(0:Int) <(2^l:Nat):=by have:=Aib l;omega
 have hs:=sign_mul (Ht f x) (Ht f y) (m*2^i) (n*2^j);have ha:=natAbs_sign (Ht f x) (m*2^i);have hb:=natAbs_sign (Ht f y) (n*2^j);rw[hi]at hs ha;rw[hj]at hs hb
 refine Fa (a:=i+j) (b:=l) hr (by rw[hl];omega) ?_ (fun h=>hs.1 ?_) (fun h=>hs.2 ?_)
 ·have h:=congrArg Int.natAbs hc;rw[Ais,Ais,ha,hb]at h;rw[Aih]at h;rw[<-h,Ail];simp only[Aiy,Aky]
 ·rw[hc];exact Int.mul_neg_of_neg_of_pos h hpl
 ·rw[hc];exact Int.mul_pos h hpl
theorem Yh {f:Format}{v:Int}{m e:Nat}(hv:v.natAbs=m*2^e)(hm:m<2*f.binade)(he:f.fractionBits<=e)(hmax:(e+2)*f.binade<=f.infRung):Oe f v:=by
 have hbp:=Dp f
 by_cases h0:m=0
 ·refine⟨0,?_,?_⟩
  ·have:0 <(e+2)*f.binade:=Nat.mul_pos (by omega) hbp
   omega
  ·rw[hv,h0];simp[rv,rm,re]
 ·have hl:=Nat.log2_self_le h0;have hu:m<2^(m.log2+1):=Aln
  have hlog:m.log2<=f.fractionBits:=by
   have:m.log2<f.fractionBits+1:=(Nat.log2_lt h0).2 (by rw[Alc,Aj7];exact hm)
   omega
  obtain⟨k,hk⟩:∃k,m.log2+k=f.fractionBits:=⟨f.fractionBits-m.log2,by omega⟩
  have h1:f.binade<=m*2^k:=by
   unfold Format.binade;rw[<-hk,Ail];exact Ai7 _ hl
  have h2:m*2^k<2*f.binade:=by
   unfold Format.binade
   calc m*2^k<2^(m.log2+1)*2^k:=Akl hu (Aib _)
    _=2*2^f.fractionBits:=by rw[<-hk,Alc,Ail];simp only[Aj7,Aky]
  have hke:k<=e:=by omega
  refine⟨(e-k)*f.binade+m*2^k,?_,?_⟩
  ·have:(e-k)*f.binade<=e*f.binade:=Ai7 _ (by omega)
   rw[Nat.add_mul]at hmax
   omega
  ·have hdiv:((e-k)*f.binade+m*2^k) / f.binade=e-k+1:=by
    rw[Aj7,Nat.mul_add_div hbp]
    have:m*2^k / f.binade=1:=by
     rw[Nat.div_eq_iff hbp];omega
    omega
   have hre:re f ((e-k)*f.binade+m*2^k)=e-k:=by unfold re;rw[hdiv];omega
   have hrm:rm f ((e-k)*f.binade+m*2^k)=m*2^k:=by unfold rm;rw[hre];omega
   unfold rv;rw[hre,hrm,hv,Aiy,<-Ail]
   congr 2;omega
theorem H8:single.leastPlace=-149:=by decide
theorem Gw:double.leastPlace=-1074:=by decide
theorem Br:single.binade=8388608:=by decide
theorem Am:double.binade=4503599627370496:=by decide
theorem Hu:single.infRung=255*single.binade:=by decide
theorem Bn:double.infRung=2047*double.binade:=by decide
theorem Yz {k:FloatKind}{x:Nat}{v:Int}(h:Cu k.format x v):(k.decode x).isNaN=false:=by
 unfold FloatKind.decode;rw[Ax h.fin];rfl
theorem Yy {k:FloatKind}{x:Nat}{v:Int}(h:Cu k.format x v):(k.decode x).isInfinity=false:=by
 unfold FloatKind.decode;rw[Ax h.fin];rfl
theorem J2 {f:Format}{x y:Nat}{a b:Int}(hx:Cu f x a)(hy:Cu f y b):f.order x y=some (compare a b):=by
 rw[A73 hx.fin hy.fin,hx.iv,hy.iv]
theorem Cr {f:Format}{x:Nat}{v:Int}(h:Cu f x v):v.natAbs=rm f (Ae f x)*2^re f (Ae f x):=by
 rw[<-h.iv];unfold Flo.iv rv;exact natAbs_sign _ _
theorem A1h {f:Format}{r e:Nat}(h:r<f.infRung)(he:f.infRung=(e+1)*f.binade):re f r<e+1:=by
 have hbp:=Dp f;have:r / f.binade<e+1:=(Nat.div_lt_iff_lt_mul hbp).2 (by rw[<-he];exact h)
 unfold re;omega
def Gj:Nat:=925
theorem Mz:Gj=925:=rfl
theorem Dj {x:Nat}{a:Int}(h:Cu single x a):∃y,floatToFloatBits .f32 x .f64=some y/\Cu double y (a *(2^Gj:Nat)):=by
 have hd:=Cr h;have hr:=A1h (e:=254) h.fin (by decide)
 have hm:=Nw single (Ae single x);have hb:=Br;have hw:=Mz
 have hrep:Oe double (a *(2^Gj:Nat)):=by
  refine Yh (m:=rm single (Ae single x)) (e:=re single (Ae single x)+Gj) ?_ ?_ ?_ ?_
  ·rw[Ais,Aih,hd,Aiy,<-Ail]
  ·rw[Am];omega
  ·show 52<=_;omega
  ·rw[Bn];exact Ai7 _ (by omega)
 have hs:∀{v:Int},v=a *(2^Gj:Nat) ->(v<0->Ht single x=true) /\(0<v->Ht single x=false):=by
  intro v hv;have hiv:=h.iv;unfold Flo.iv at hiv;have hp:(0:Int) <(2^Gj:Nat):=Int.ofNat_lt.2 (Aib Gj);subst hv
  constructor
  ·intro hneg
   cases hsg:Ht single x
   ·exfalso
    rw[hsg]at hiv;simp only[Aj8,Alx]at hiv;have:=Ak0 (show(0:Int)<=a by omega) (Alf hp)
    exact absurd hneg (Int.not_lt.2 this)
   ·rfl
  ·intro hpos
   cases hsg:Ht single x
   ·rfl
   ·exfalso
    rw[hsg]at hiv;simp only[Amg]at hiv;have:=Int.mul_nonpos_of_nonpos_of_nonneg (show a<=0 by omega) (Alf hp)
    exact absurd hpos (Int.not_lt.2 this)
 have hv:=Fa (f:=double) (s:=Ht single x) (mag:=rm single (Ae single x)) (place:=single.leastPlace+re single (Ae single x)) (a:=re single (Ae single x)+Gj) (b:=0) hrep
  (by rw[H8,Gw];omega) (by rw[Ais,Aih,hd,Ail];simp only[Aiy,Alu,Alq]) (hs rfl).1 (hs rfl).2
 refine⟨_,?_,hv⟩
 unfold floatToFloatBits;rw[Aid (by decide)]
 have hdec:FloatKind.decode .f32 x=.number (Ht single x) (rm single (Ae single x)) (single.leastPlace+re single (Ae single x)):=Ax h.fin;rw[hdec];have hni:(FloatKind.decode .f64 (FloatKind.encode .f64 (.number (Ht single x) (rm single (Ae single x)) (single.leastPlace+re single (Ae single x))))).isInfinity=false:=Yy (k:=.f64) hv;simp only[hni]
 rfl
end Flo
end Go.Proofs.YtlfleicchbgcmaaGreat
end
namespace Go.Proofs.YtlfleicchbgcmaaGreat
end Go.Proofs.YtlfleicchbgcmaaGreat
section
namespace Go.Proofs.YtlfleicchbgcmaaGreat
namespace Flo
def nan (k:FloatKind)(x:Nat):Bool:=(k.decode x).isNaN
theorem Hq {k:FloatKind}{x:Nat}(y:Nat)(h:nan k x=true):k.format.order x y=none:=by
 unfold nan FloatKind.decode at h;unfold Ieee.Format.order
 cases hx:k.format.read x<;>simp_all [Ieee.Datum.isNaN,Ieee.Datum.order]
theorem K1 {k:FloatKind}{y:Nat}(x:Nat)(h:nan k y=true):k.format.order x y=none:=by
 unfold nan FloatKind.decode at h;unfold Ieee.Format.order
 cases hy:k.format.read y<;>simp_all [Ieee.Datum.isNaN]
 cases k.format.read x<;>simp[Ieee.Datum.order]
def Ahm (k:FloatKind)(x:Nat)(w:World):Nat:=(Question.nanConv k x).cut (w.tape w.drawn (Question.nanConv k x))
theorem Vy (t:Nat):nan .f32 ((t % 2)*2^31+0x7f800000+1 +(t / 2) % (2^23-1))=true:=by
 unfold nan FloatKind.decode;have h1:t % 2<2:=Akz _ (by omega)
 have h2:(t / 2) % (2^23-1)<8388607:=Akz _ (by omega)
 generalize t % 2=a at *;generalize (t / 2) % (2^23-1)=b at *
 show(Ieee.single.read _).isNaN=true
 unfold Ieee.Format.read;have hs:Ieee.single.signWeight=2147483648:=by decide
 have hb:Ieee.single.binade=8388608:=by decide
 have hi:Ieee.single.infRung=2139095040:=by decide
 simp only[hs,hb,hi];have hm:(a*2^31+2139095040+1+b) % 2147483648=2139095041+b:=by omega
 rw[hm];rw[Aid (by omega),Aid (by omega),Aid (by omega)]
 rfl
theorem Vz (t:Nat):nan .f64 ((t % 2)*2^63+0x7ff0000000000000+1 +(t / 2) % (2^52-1))=true:=by
 unfold nan FloatKind.decode;have h1:t % 2<2:=Akz _ (by omega)
 have h2:(t / 2) % (2^52-1)<2^52-1:=Akz _ (by omega)
 generalize t % 2=a at *;generalize (t / 2) % (2^52-1)=b at *
 show(Ieee.double.read _).isNaN=true
 unfold Ieee.Format.read;have hs:Ieee.double.signWeight=9223372036854775808:=by decide
 have hb:Ieee.double.binade=4503599627370496:=by decide
 have hi:Ieee.double.infRung=9218868437227405312:=by decide
 simp only[hs,hb,hi];have hm:(a*2^63+9218868437227405312+1+b) % 9223372036854775808=9218868437227405313+b:=by omega
 rw[hm];rw[Aid (by omega),Aid (by omega),Aid (by omega)]
 rfl
theorem A9t (k:FloatKind)(x:Nat)(w:World):nan k (Ahm k x w)=true:=by
 cases k
 ·exact Vy _
 ·exact Vz _
theorem kinds (f:Ieee.Format)(he:1<=f.exponentBits)(x:Nat):fin f x \/(∃s,f.read x=.infinity s) \/(∃s t,f.read x=.nan s t):=by
 by_cases h:fin f x
 ·exact .inl h
 ·right
  unfold fin Ae at h;unfold Ieee.Format.read;simp only
  have hb:f.binade<=f.infRung:=by
   unfold Ieee.Format.infRung;have:2^1<=2^f.exponentBits:=Ain (by omega) he
   exact Nat.le_mul_of_pos_left _ (by omega)
  rw[Aid (by omega),Aid h]
  split
  ·exact .inl ⟨_,rfl⟩
  ·exact .inr ⟨_,_,rfl⟩
theorem A86 {x:Nat}(hx:x<2^32)(h:nan .f32 x=false):∃y,floatToFloatBits .f32 x .f64=some y/\nan .f64 y=false:=by
 rcases kinds Ieee.single (by decide) x with hf |⟨s,hi⟩ |⟨s,t,hn⟩
 ·obtain⟨y,hy,hv⟩:=Dj ⟨hx,hf,rfl⟩
  exact⟨y,hy,Yz (k:=.f64) hv⟩
 ·refine⟨FloatKind.encode .f64 (.infinity s),?_,?_⟩
  ·unfold floatToFloatBits;rw[Aid (by decide)]
   have:FloatKind.decode .f32 x=.infinity s:=hi;rw[this]
  ·cases s<;>decide
 ·exfalso
  unfold nan FloatKind.decode at h;have:FloatKind.format .f32=Ieee.single:=rfl;rw[this,hn]at h
  cases h
end Flo
end Go.Proofs.YtlfleicchbgcmaaGreat
end
namespace Go.Proofs.YtlfleicchbgcmaaGreat
namespace Flo
open Go.RowKit
theorem A1f:(2:Nat)^32=4294967296:=by decide
theorem Zx (x y t:Nat):(Question.nanBits .f32 x y).cut t<2^32:=by
 show(t % 2)*2^31+0x7f800000+1 +(t / 2) % (2^23-1)<2^32
 omega
theorem Zy (x y t:Nat):(Question.nanBits .f64 x y).cut t<2^64:=by
 show(t % 2)*2^63+0x7ff0000000000000+1 +(t / 2) % (2^52-1)<2^64
 omega
theorem Rp (x t:Nat):(Question.nanConv .f32 x).cut t<2^32:=by
 show(t % 2)*2^31+0x7f800000+1 +(t / 2) % (2^23-1)<2^32
 omega
theorem Z1:FloatKind.f32.format.width=32:=rfl
theorem Z2:FloatKind.f64.format.width=64:=rfl
theorem Cm {P:Program}(op:BinOp)(hop:op=.add\/op=.sub\/op=.mul\/op=.quo)(t:TypeId)(k:FloatKind)(x y:Nat)(w:World) :
 ∃z w',(binOp op t (.float k x) (.float k y)).run P w=.ok (.float k z) w'/\z<2^k.format.width/\Aq w w':=by
 cases h:floatBits op k x y with
 | some r =>
   refine⟨r,w,Aj6 w op t k x y r h,?_,Aq.refl w⟩
   have:=floatBits_wf h
   cases k<;>simpa [Lit.wf,Z1,Z2]using this
 | none =>
   refine⟨(Question.nanBits k x y).cut (w.tape w.drawn (Question.nanBits k x y)),w.drew,?_,?_,(Aq.refl w).drew⟩
   ·unfold floatBits at h
    rcases hop with rfl|rfl|rfl|rfl<;>simp only at h<;>simp[binOp,Op.floatArith,h]<;>(intro hf;simp[Question.forced]at hf)
   ·cases k
    ·exact Zx _ _ _
    ·exact Zy _ _ _
theorem Acs {P:Program}(k:FloatKind)(x:Nat)(w:World):(Op.unary .neg (.float k x)).run P w=.ok (.float k (Op.negFloat k x)) w:=rfl
theorem Q4 (f:Ieee.Format)(s:Bool)(r:Nat)(h:r<=f.infRung):(f.read (f.word s r)).isNaN=false:=by
 have hr:f.word s r % f.signWeight=r:=Oz f s r (Nat.lt_of_le_of_lt h (Ieee.Format.infRung_lt f));unfold Ieee.Format.read;simp only[hr]
 split
 ·rfl
 ·split
  ·rfl
  ·rw[Aij (by omega)];rfl
theorem Ko (f:Ieee.Format)(s:Bool)(m:Nat)(p:Int):(f.read (f.nearest s m p)).isNaN=false:=by
 rw[D9];exact Q4 f s _ (Sp f s m p)
theorem A3n {k:FloatKind}{x one:Nat}(hone:∃s m e,k.format.read one=.number s (m+1) e)(h:nan k x=false):∃r,floatBits .quo k one x=some r/\nan k r=false:=by
 obtain⟨s,m,e,h1⟩:=hone;unfold nan FloatKind.decode at h ⊢;simp only[floatBits,Ieee.Format.div,h1]
 cases hx:k.format.read x with
 | nan _ _=>rw[hx]at h;cases h
 | infinity t=>exact⟨_,rfl,Ko _ _ _ _⟩
 | number t n j =>
   cases n with
   | zero=>exact⟨_,rfl,Q4 _ _ _ (Ai3 _)⟩
   | succ n=>exact⟨_,rfl,Ko _ _ _ _⟩
end Flo
end Go.Proofs.YtlfleicchbgcmaaGreat
