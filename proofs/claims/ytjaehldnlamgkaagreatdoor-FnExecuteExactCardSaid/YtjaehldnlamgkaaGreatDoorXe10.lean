import Derived.Test.YtjaehldnlamgkaaGreatDoorProg
import Derived.ProofKit
import Derived.Test.YtjaehldnlamgkaaGreatDoorXe9
import Derived.Conc.Own3
import Derived.Test.YtjaehldnlamgkaaGreatDoorXe0
set_option linter.all false
set_option maxHeartbeats 16000000
set_option maxRecDepth 100000
namespace Go.Proofs.YtjaehldnlamgkaaGreatDoor
namespace Vp
open Go
def lay (id:Nat)(new:Array Oper):Code->Code
 | .region i ops d=>if i == id then .region i new d else .region i ops d
 | .seq a b=>.seq (lay id new a) (lay id new b)
 | .cond c a b=>.cond c (lay id new a) (lay id new b)
 | .rangeFunc f p a b=>.rangeFunc f p (lay id new a) (lay id new b)
 | .block i c=>.block i (lay id new c)
 | .loop c=>.loop (lay id new c)
 | .scope c=>.scope (lay id new c)
 | c=>c
def made:Array Oper:=#[
 { dst:=some 23,op:=.move (.tmp 0),type:=35,pos := "", after:=#[],guard:=none },
 { dst:=some 24,op:=.move (.tmp 1),type:=3,pos := "", after:=#[],guard:=none },
 { dst:=some 25,op:=.move (.tmp 2),type:=3,pos := "", after:=#[],guard:=none },
 { dst:=some 75,op:=.binOp .mul 3 (.tmp 25) (.tmp 25) 3,type:=3,pos := "", after:=#[],guard:=none },
 { dst:=some 26,op:=.makeSlice 40 (.const (.int .i64 0)) (.tmp 75),type:=40,pos := "", after:=#[],guard:=none },
 { dst:=some 27,op:=.makeSlice 41 (.const (.int .i64 0)) (.tmp 75),type:=41,pos := "", after:=#[],guard:=none },
 { dst:=some 28,op:=.build 43 #[(0,.tmp 23),(1,.tmp 24),(2,.tmp 25),(3,.tmp 26),(4,.tmp 27)],type:=43,pos := "", after:=#[],guard:=none },
 { dst:=some 10,op:=.alloc 43,type:=0,pos := "", after:=#[],guard:=none },
 { dst:=none,op:=.store 43 (.tmp 10) (.tmp 28),type:=0,pos := "", after:=#[],guard:=none }]
def guards:Array Oper:=#[
 { dst:=some 76,op:=.call { callee:=.builtin .real,args:=#[.tmp 0],argTypes:=#[35] },type:=87,pos := "", after:=#[],guard:=none },
 { dst:=some 80,op:=.binOp .lss 87 (.tmp 76) (.const (.float .f32 0)) 87,type:=87,pos := "", after:=#[],guard:=none },
 { dst:=some 77,op:=.binOp .mul 3 (.tmp 1) (.const (.int .i64 0)) 3,type:=3,pos := "", after:=#[],guard:=none },
 { dst:=some 78,op:=.binOp .mul 3 (.tmp 2) (.const (.int .i64 0)) 3,type:=3,pos := "", after:=#[],guard:=none },
 { dst:=some 79,op:=.binOp .mul 3 (.tmp 3) (.const (.int .i64 0)) 3,type:=3,pos := "", after:=#[],guard:=none }]
def guarded (c:Code):Code:=.seq (.region 90 guards false) (lay 3 made c)
noncomputable def fT:Func:={ Tryz.f17 with ntmps:=81,body:=Tryz.f18.body.map guarded }
def Da (ids:List Nat):Code->Code
 | .region id ops d=>if ids.contains id || ids.contains 1000 then .refuse "unsupported: a function without a Go body is entered" else .region id ops d
 | .seq a b=>.seq (Da ids a) (Da ids b)
 | .cond c a b=>.cond c (Da ids a) (Da ids b)
 | .rangeFunc f p a b=>.rangeFunc f p (Da ids a) (Da ids b)
 | .block i c=>.block i (Da ids c)
 | .loop c=>.loop (Da ids c)
 | .scope c=>.scope (Da ids c)
 | .refuse _=>.refuse "unsupported: a function without a Go body is entered"
 | .goto l=>.goto l
 | .skip=>.skip
 | .ret=>.ret
 | .exit i=>.exit i
 | .label l=>.label l
noncomputable def A3s:Func:={ Tryz.f32 with body:=Tryz.f32.body.map (Da [12]) }
noncomputable def A3t:Func:={ Tryz.f65 with body:=Tryz.f65.body.map (Da [1000]) }
noncomputable def A3u:Func:={ Tryz.f74 with body:=Tryz.f74.body.map (Da [9,15]) }
noncomputable def Ry:Func:={ Tryz.f104 with body:=Tryz.f104.body.map (Da [6,7,8,9,10,11,12,13,14,15,16,17,18,19,20,21,22,23,24,25,26,27,28,29,30,31,32,33,34,35]) }
noncomputable def Rz:Func:={ Tryz.f110 with body:=Tryz.f110.body.map (Da [1000]) }
noncomputable def S5:Func:={ Tryz.f111 with body:=Tryz.f111.body.map (Da [1000]) }
noncomputable def S6:Func:={ Tryz.f113 with body:=Tryz.f113.body.map (Da [1000]) }
noncomputable def S7:Func:={ Tryz.f114 with body:=Tryz.f114.body.map (Da [1000]) }
noncomputable def S8:Func:={ Tryz.f115 with body:=Tryz.f115.body.map (Da [1000]) }
noncomputable def S9:Func:={ Tryz.f117 with body:=Tryz.f117.body.map (Da [1000]) }
noncomputable def Sa:Func:={ Tryz.f118 with body:=Tryz.f118.body.map (Da [1000]) }
noncomputable def Sb:Func:={ Tryz.f120 with body:=Tryz.f120.body.map (Da [1]) }
noncomputable def Sc:Func:={ Tryz.f123 with body:=Tryz.f123.body.map (Da [2]) }
noncomputable def Sd:Func:={ Tryz.f143 with body:=Tryz.f143.body.map (Da [1000]) }
noncomputable def Se:Func:={ Tryz.f183 with body:=Tryz.f183.body.map (Da [1000]) }
noncomputable def Sf:Func:={ Tryz.f190 with body:=Tryz.f190.body.map (Da [1000]) }
noncomputable def Sg:Func:={ Tryz.f205 with body:=Tryz.f205.body.map (Da [7]) }
noncomputable def Sh:Func:={ Tryz.f210 with body:=Tryz.f210.body.map (Da [1000]) }
noncomputable def Si:Func:={ Tryz.f223 with body:=Tryz.f223.body.map (Da [2]) }
def M8:List Nat:=[32,65,74,104,110,111,113,114,115,117,118,120,123,143,183,190,205,210,223]
def Ow:Nat->Code->Code
 | n+1,.seq _ b=>Ow n b
 | _,c=>c
noncomputable def fL3:Func:={ Tryz.f3 with body:=Tryz.f3.body.map (Ow 3) }
noncomputable def fL4:Func:={ Tryz.f4 with body:=Tryz.f4.body.map (Ow 3) }
def Lt:List Nat:=[3,4]
noncomputable def prog:Program:={ Tryz.prog with funcs:=(((((((((((((((((((((Tryz.prog.funcs.setIfInBounds 17 fT).setIfInBounds 32 A3s).setIfInBounds 65 A3t).setIfInBounds 74 A3u).setIfInBounds 104 Ry).setIfInBounds 110 Rz).setIfInBounds 111 S5).setIfInBounds 113 S6).setIfInBounds 114 S7).setIfInBounds 115 S8).setIfInBounds 117 S9).setIfInBounds 118 Sa).setIfInBounds 120 Sb).setIfInBounds 123 Sc).setIfInBounds 143 Sd).setIfInBounds 183 Se).setIfInBounds 190 Sf).setIfInBounds 205 Sg).setIfInBounds 210 Sh).setIfInBounds 223 Si).setIfInBounds 3 fL3).setIfInBounds 4 fL4 }
theorem Alr (p:Program)(fs:Array Func):({ p with funcs:=fs }:Program).toTables=p.toTables:=rfl
@[simp]theorem Gb:prog.toTables=Tryz.prog.toTables:=by unfold prog;exact Alr _ _
theorem size:prog.funcs.size=Tryz.prog.funcs.size:=by unfold prog;simp
theorem same {k:Nat}(h:k≠17)(hc:M8.contains k=false)(ht:Lt.contains k=false):prog.funcs[k]?=Tryz.prog.funcs[k]?:=by
 unfold prog;simp only[M8,Anj,Anq,Aop,Bool.or_eq_false_iff,Ap0,ne_eq]at hc;simp only[Lt,Anj,Anq,Aop,Bool.or_eq_false_iff,Ap0,ne_eq]at ht;obtain⟨c32,c65,c74,c104,c110,c111,c113,c114,c115,c117,c118,c120,c123,c143,c183,c190,c205,c210,c223⟩:=hc;obtain⟨l3,l4⟩:=ht
 exact(Alz fun e=>l4 e.symm).trans ((Alz fun e=>l3 e.symm).trans ((Alz fun e=>c223 e.symm).trans ((Alz fun e=>c210 e.symm).trans ((Alz fun e=>c205 e.symm).trans ((Alz fun e=>c190 e.symm).trans ((Alz fun e=>c183 e.symm).trans ((Alz fun e=>c143 e.symm).trans ((Alz fun e=>c123 e.symm).trans ((Alz fun e=>c120 e.symm).trans ((Alz fun e=>c118 e.symm).trans ((Alz fun e=>c117 e.symm).trans ((Alz fun e=>c115 e.symm).trans ((Alz fun e=>c114 e.symm).trans ((Alz fun e=>c113 e.symm).trans ((Alz fun e=>c111 e.symm).trans ((Alz fun e=>c110 e.symm).trans ((Alz fun e=>c104 e.symm).trans ((Alz fun e=>c74 e.symm).trans ((Alz fun e=>c65 e.symm).trans ((Alz fun e=>c32 e.symm).trans (Alz fun e=>h e.symm)))))))))))))))))))))
@[simp]theorem Pj:prog.funcs[17]?=some fT:=by
 unfold prog;have h:=(Alx.1 Tryz.func17).1;simp[Am4,h]
@[simp]theorem func32:prog.funcs[32]?=some A3s:=by
 unfold prog;have h:=(Alx.1 Tryz.func32).1;simp[Am4,h]
@[simp]theorem Abj:A3s.ntmps=Tryz.f32.ntmps:=rfl
@[simp]theorem Aj0:A3s.params=Tryz.f32.params:=rfl
@[simp]theorem Tk:A3s.results=Tryz.f32.results:=rfl
@[simp]theorem func65:prog.funcs[65]?=some A3t:=by
 unfold prog;have h:=(Alx.1 Tryz.func65).1;simp[Am4,h]
@[simp]theorem Aka:A3t.ntmps=Tryz.f65.ntmps:=rfl
@[simp]theorem Aj1:A3t.params=Tryz.f65.params:=rfl
@[simp]theorem Ahv:A3t.results=Tryz.f65.results:=rfl
@[simp]theorem func74:prog.funcs[74]?=some A3u:=by
 unfold prog;have h:=(Alx.1 Tryz.func74).1;simp[Am4,h]
@[simp]theorem Ta:A3u.ntmps=Tryz.f74.ntmps:=rfl
@[simp]theorem Aj2:A3u.params=Tryz.f74.params:=rfl
@[simp]theorem Ahw:A3u.results=Tryz.f74.results:=rfl
@[simp]theorem func104:prog.funcs[104]?=some Ry:=by
 unfold prog;have h:=(Alx.1 Tryz.func104).1;simp[Am4,h]
@[simp]theorem A8b:Ry.ntmps=Tryz.f104.ntmps:=rfl
@[simp]theorem Ahe:Ry.params=Tryz.f104.params:=rfl
@[simp]theorem Afx:Ry.results=Tryz.f104.results:=rfl
@[simp]theorem func110:prog.funcs[110]?=some Rz:=by
 unfold prog;have h:=(Alx.1 Tryz.func110).1;simp[Am4,h]
@[simp]theorem Ain:Rz.ntmps=Tryz.f110.ntmps:=rfl
@[simp]theorem Ahf:Rz.params=Tryz.f110.params:=rfl
@[simp]theorem Afy:Rz.results=Tryz.f110.results:=rfl
@[simp]theorem func111:prog.funcs[111]?=some S5:=by
 unfold prog;have h:=(Alx.1 Tryz.func111).1;simp[Am4,h]
@[simp]theorem Aio:S5.ntmps=Tryz.f111.ntmps:=rfl
@[simp]theorem Ahg:S5.params=Tryz.f111.params:=rfl
@[simp]theorem Afz:S5.results=Tryz.f111.results:=rfl
@[simp]theorem func113:prog.funcs[113]?=some S6:=by
 unfold prog;have h:=(Alx.1 Tryz.func113).1;simp[Am4,h]
@[simp]theorem Aip:S6.ntmps=Tryz.f113.ntmps:=rfl
@[simp]theorem Ahh:S6.params=Tryz.f113.params:=rfl
@[simp]theorem Ag0:S6.results=Tryz.f113.results:=rfl
@[simp]theorem func114:prog.funcs[114]?=some S7:=by
 unfold prog;have h:=(Alx.1 Tryz.func114).1;simp[Am4,h]
@[simp]theorem Aiq:S7.ntmps=Tryz.f114.ntmps:=rfl
@[simp]theorem Ahi:S7.params=Tryz.f114.params:=rfl
@[simp]theorem Ag1:S7.results=Tryz.f114.results:=rfl
@[simp]theorem func115:prog.funcs[115]?=some S8:=by
 unfold prog;have h:=(Alx.1 Tryz.func115).1;simp[Am4,h]
@[simp]theorem Air:S8.ntmps=Tryz.f115.ntmps:=rfl
@[simp]theorem Ahj:S8.params=Tryz.f115.params:=rfl
@[simp]theorem Ag2:S8.results=Tryz.f115.results:=rfl
@[simp]theorem func117:prog.funcs[117]?=some S9:=by
 unfold prog;have h:=(Alx.1 Tryz.func117).1;simp[Am4,h]
@[simp]theorem Ais:S9.ntmps=Tryz.f117.ntmps:=rfl
@[simp]theorem Ahk:S9.params=Tryz.f117.params:=rfl
@[simp]theorem Ag3:S9.results=Tryz.f117.results:=rfl
@[simp]theorem func118:prog.funcs[118]?=some Sa:=by
 unfold prog;have h:=(Alx.1 Tryz.func118).1;simp[Am4,h]
@[simp]theorem Ait:Sa.ntmps=Tryz.f118.ntmps:=rfl
@[simp]theorem Ahl:Sa.params=Tryz.f118.params:=rfl
@[simp]theorem Ag4:Sa.results=Tryz.f118.results:=rfl
@[simp]theorem func120:prog.funcs[120]?=some Sb:=by
 unfold prog;have h:=(Alx.1 Tryz.func120).1;simp[Am4,h]
@[simp]theorem A8c:Sb.ntmps=Tryz.f120.ntmps:=rfl
@[simp]theorem Ahm:Sb.params=Tryz.f120.params:=rfl
@[simp]theorem Ag5:Sb.results=Tryz.f120.results:=rfl
@[simp]theorem func123:prog.funcs[123]?=some Sc:=by
 unfold prog;have h:=(Alx.1 Tryz.func123).1;simp[Am4,h]
@[simp]theorem A8d:Sc.ntmps=Tryz.f123.ntmps:=rfl
@[simp]theorem Ahn:Sc.params=Tryz.f123.params:=rfl
@[simp]theorem Ag6:Sc.results=Tryz.f123.results:=rfl
@[simp]theorem func143:prog.funcs[143]?=some Sd:=by
 unfold prog;have h:=(Alx.1 Tryz.func143).1;simp[Am4,h]
@[simp]theorem Aiu:Sd.ntmps=Tryz.f143.ntmps:=rfl
@[simp]theorem Aho:Sd.params=Tryz.f143.params:=rfl
@[simp]theorem Ag7:Sd.results=Tryz.f143.results:=rfl
@[simp]theorem func183:prog.funcs[183]?=some Se:=by
 unfold prog;have h:=(Alx.1 Tryz.func183).1;simp[Am4,h]
@[simp]theorem Aiv:Se.ntmps=Tryz.f183.ntmps:=rfl
@[simp]theorem Ahp:Se.params=Tryz.f183.params:=rfl
@[simp]theorem Ag8:Se.results=Tryz.f183.results:=rfl
@[simp]theorem func190:prog.funcs[190]?=some Sf:=by
 unfold prog;have h:=(Alx.1 Tryz.func190).1;simp[Am4,h]
@[simp]theorem Aiw:Sf.ntmps=Tryz.f190.ntmps:=rfl
@[simp]theorem Ahq:Sf.params=Tryz.f190.params:=rfl
@[simp]theorem Ag9:Sf.results=Tryz.f190.results:=rfl
@[simp]theorem func205:prog.funcs[205]?=some Sg:=by
 unfold prog;have h:=(Alx.1 Tryz.func205).1;simp[Am4,h]
@[simp]theorem Aix:Sg.ntmps=Tryz.f205.ntmps:=rfl
@[simp]theorem Ahr:Sg.params=Tryz.f205.params:=rfl
@[simp]theorem Aga:Sg.results=Tryz.f205.results:=rfl
@[simp]theorem func210:prog.funcs[210]?=some Sh:=by
 unfold prog;have h:=(Alx.1 Tryz.func210).1;simp[Am4,h]
@[simp]theorem Aiy:Sh.ntmps=Tryz.f210.ntmps:=rfl
@[simp]theorem Ahs:Sh.params=Tryz.f210.params:=rfl
@[simp]theorem Agb:Sh.results=Tryz.f210.results:=rfl
@[simp]theorem func223:prog.funcs[223]?=some Si:=by
 unfold prog;have h:=(Alx.1 Tryz.func223).1;simp[Am4,h]
@[simp]theorem Aiz:Si.ntmps=Tryz.f223.ntmps:=rfl
@[simp]theorem Aht:Si.params=Tryz.f223.params:=rfl
@[simp]theorem Agc:Si.results=Tryz.f223.results:=rfl
@[simp]theorem func3:prog.funcs[3]?=some fL3:=by
 unfold prog;have h:=(Alx.1 Tryz.func3).1;simp[Am4,h]
@[simp]theorem Yg:fL3.ntmps=Tryz.f3.ntmps:=rfl
@[simp]theorem Akh:fL3.params=Tryz.f3.params:=rfl
@[simp]theorem Aj3:fL3.results=Tryz.f3.results:=rfl
@[simp]theorem func4:prog.funcs[4]?=some fL4:=by
 unfold prog;have h:=(Alx.1 Tryz.func4).1;simp[Am4,h]
@[simp]theorem Al0:fL4.ntmps=Tryz.f4.ntmps:=rfl
@[simp]theorem Aki:fL4.params=Tryz.f4.params:=rfl
@[simp]theorem Aj4:fL4.results=Tryz.f4.results:=rfl
theorem Akw (k:Nat)(h:Lt.contains k=true):∃fn fn':Func,Tryz.prog.funcs[k]?=some fn'/\prog.funcs[k]?=some fn/\fn.name=fn'.name/\fn.results=fn'.results:=by
 simp only[Lt,Anj,Anq,Aop,Ane,Aqw]at h
 rcases h with rfl|rfl
 ·exact⟨fL3,Tryz.f3,Tryz.func3,func3,rfl,rfl⟩
 ·exact⟨fL4,Tryz.f4,Tryz.func4,func4,rfl,rfl⟩
theorem Adt (k:Nat)(h:M8.contains k=true):∃(fn fn':Func) (c:Code) (ids:List Nat),Tryz.prog.funcs[k]?=some fn'/\prog.funcs[k]?=some fn/\fn.name=fn'.name/\fn.results=fn'.results/\fn.ntmps=fn'.ntmps/\fn'.body=some c/\fn.body=some (Da ids c):=by
 simp only[M8,Anj,Anq,Aop,Ane,Aqw]at h
 rcases h with rfl|rfl|rfl|rfl|rfl|rfl|rfl|rfl|rfl|rfl|rfl|rfl|rfl|rfl|rfl|rfl|rfl|rfl|rfl
 ·obtain⟨c,hc⟩:=Amh.1 (show Tryz.f32.body.isSome=true by kernel_rfl)
  exact⟨A3s,Tryz.f32,c,[12],Tryz.func32,func32,rfl,rfl,rfl,hc,by unfold A3s;simp[hc]⟩
 ·obtain⟨c,hc⟩:=Amh.1 (show Tryz.f65.body.isSome=true by kernel_rfl)
  exact⟨A3t,Tryz.f65,c,[1000],Tryz.func65,func65,rfl,rfl,rfl,hc,by unfold A3t;simp[hc]⟩
 ·obtain⟨c,hc⟩:=Amh.1 (show Tryz.f74.body.isSome=true by kernel_rfl)
  exact⟨A3u,Tryz.f74,c,[9,15],Tryz.func74,func74,rfl,rfl,rfl,hc,by unfold A3u;simp[hc]⟩
 ·obtain⟨c,hc⟩:=Amh.1 (show Tryz.f104.body.isSome=true by kernel_rfl)
  exact⟨Ry,Tryz.f104,c,[6,7,8,9,10,11,12,13,14,15,16,17,18,19,20,21,22,23,24,25,26,27,28,29,30,31,32,33,34,35],Tryz.func104,func104,rfl,rfl,rfl,hc,by unfold Ry;simp[hc]⟩
 ·obtain⟨c,hc⟩:=Amh.1 (show Tryz.f110.body.isSome=true by kernel_rfl)
  exact⟨Rz,Tryz.f110,c,[1000],Tryz.func110,func110,rfl,rfl,rfl,hc,by unfold Rz;simp[hc]⟩
 ·obtain⟨c,hc⟩:=Amh.1 (show Tryz.f111.body.isSome=true by kernel_rfl)
  exact⟨S5,Tryz.f111,c,[1000],Tryz.func111,func111,rfl,rfl,rfl,hc,by unfold S5;simp[hc]⟩
 ·obtain⟨c,hc⟩:=Amh.1 (show Tryz.f113.body.isSome=true by kernel_rfl)
  exact⟨S6,Tryz.f113,c,[1000],Tryz.func113,func113,rfl,rfl,rfl,hc,by unfold S6;simp[hc]⟩
 ·obtain⟨c,hc⟩:=Amh.1 (show Tryz.f114.body.isSome=true by kernel_rfl)
  exact⟨S7,Tryz.f114,c,[1000],Tryz.func114,func114,rfl,rfl,rfl,hc,by unfold S7;simp[hc]⟩
 ·obtain⟨c,hc⟩:=Amh.1 (show Tryz.f115.body.isSome=true by kernel_rfl)
  exact⟨S8,Tryz.f115,c,[1000],Tryz.func115,func115,rfl,rfl,rfl,hc,by unfold S8;simp[hc]⟩
 ·obtain⟨c,hc⟩:=Amh.1 (show Tryz.f117.body.isSome=true by kernel_rfl)
  exact⟨S9,Tryz.f117,c,[1000],Tryz.func117,func117,rfl,rfl,rfl,hc,by unfold S9;simp[hc]⟩
 ·obtain⟨c,hc⟩:=Amh.1 (show Tryz.f118.body.isSome=true by kernel_rfl)
  exact⟨Sa,Tryz.f118,c,[1000],Tryz.func118,func118,rfl,rfl,rfl,hc,by unfold Sa;simp[hc]⟩
 ·obtain⟨c,hc⟩:=Amh.1 (show Tryz.f120.body.isSome=true by kernel_rfl)
  exact⟨Sb,Tryz.f120,c,[1],Tryz.func120,func120,rfl,rfl,rfl,hc,by unfold Sb;simp[hc]⟩
 ·obtain⟨c,hc⟩:=Amh.1 (show Tryz.f123.body.isSome=true by kernel_rfl)
  exact⟨Sc,Tryz.f123,c,[2],Tryz.func123,func123,rfl,rfl,rfl,hc,by unfold Sc;simp[hc]⟩
 ·obtain⟨c,hc⟩:=Amh.1 (show Tryz.f143.body.isSome=true by kernel_rfl)
  exact⟨Sd,Tryz.f143,c,[1000],Tryz.func143,func143,rfl,rfl,rfl,hc,by unfold Sd;simp[hc]⟩
 ·obtain⟨c,hc⟩:=Amh.1 (show Tryz.f183.body.isSome=true by kernel_rfl)
  exact⟨Se,Tryz.f183,c,[1000],Tryz.func183,func183,rfl,rfl,rfl,hc,by unfold Se;simp[hc]⟩
 ·obtain⟨c,hc⟩:=Amh.1 (show Tryz.f190.body.isSome=true by kernel_rfl)
  exact⟨Sf,Tryz.f190,c,[1000],Tryz.func190,func190,rfl,rfl,rfl,hc,by unfold Sf;simp[hc]⟩
 ·obtain⟨c,hc⟩:=Amh.1 (show Tryz.f205.body.isSome=true by kernel_rfl)
  exact⟨Sg,Tryz.f205,c,[7],Tryz.func205,func205,rfl,rfl,rfl,hc,by unfold Sg;simp[hc]⟩
 ·obtain⟨c,hc⟩:=Amh.1 (show Tryz.f210.body.isSome=true by kernel_rfl)
  exact⟨Sh,Tryz.f210,c,[1000],Tryz.func210,func210,rfl,rfl,rfl,hc,by unfold Sh;simp[hc]⟩
 ·obtain⟨c,hc⟩:=Amh.1 (show Tryz.f223.body.isSome=true by kernel_rfl)
  exact⟨Si,Tryz.f223,c,[2],Tryz.func223,func223,rfl,rfl,rfl,hc,by unfold Si;simp[hc]⟩
@[simp]theorem A4f:fT.ntmps=81:=rfl
theorem All (f:Func)(n:Nat)(b:Option Code):({ f with ntmps:=n,body:=b }:Func).params=f.params:=rfl
theorem Aln (f:Func)(n:Nat)(b:Option Code):({ f with ntmps:=n,body:=b }:Func).results=f.results:=rfl
theorem Ala (f:Func)(n:Nat)(b:Option Code):({ f with ntmps:=n,body:=b }:Func).body=b:=rfl
@[simp]theorem Al1:fT.params=Tryz.f17.params:=by unfold fT;exact All _ _ _
@[simp]theorem No:fT.results=Tryz.f17.results:=by unfold fT;exact Aln _ _ _
theorem Afs:fT.body=Tryz.f18.body.map guarded:=by unfold fT;exact Ala _ _ _
@[simp]theorem A2y (t:TypeId):prog.underlying t=Tryz.prog.underlying t:=by unfold Program.underlying;rw[Gb]
theorem rb {α β:Type}(P:Program)(x:Sem α)(f:α->Sem β)(w:World):(x >>= f).run P w=match x.run P w with
 | .ok a w'=>(f a).run P w'
 | .halt h w'=>.halt h w':=by
 rw[Sem.run_bind]
 cases x.run P w<;>rfl
section
variable {p p' : Program} (h : p'.toTables = p.toTables)
include h
theorem Ak2 (t:TypeId):p'.info? t=p.info? t:=by rw[h]
theorem Als (t:TypeId):p'.underlying t=p.underlying t:=by unfold Program.underlying;rw[h]
theorem Hk (t:TypeId)(w:World):Sem.run p' (typeInfo t) w=Sem.run p (typeInfo t) w:=by
 unfold typeInfo;rw[rb,rb,run_program,run_program];dsimp only;rw[Ak2 h]
 cases p.info? t<;>rfl
theorem Je (t:TypeId)(w:World):Sem.run p' (underlying t) w=Sem.run p (underlying t) w:=by
 unfold underlying;rw[rb,rb,run_program,run_program];dsimp only;rw[Als h]
 cases p.underlying t<;>rfl
theorem A1y (t:TypeId)(w:World):Sem.run p' (sizeOf t) w=Sem.run p (sizeOf t) w:=by
 unfold sizeOf;rw[rb,rb,Hk h]
 cases (typeInfo t).run p w<;>rfl
theorem A4o (t:TypeId)(w:World):Sem.run p' (isAgg t) w=Sem.run p (isAgg t) w:=by
 unfold isAgg;rw[rb,rb,Je h]
 cases (underlying t).run p w with
 | ok a w=>cases a<;>rfl
 | halt a w=>rfl
theorem To (t:TypeId)(w:World):Sem.run p' (zeroValue t) w=Sem.run p (zeroValue t) w:=by
 unfold zeroValue;rw[rb,rb,Hk h]
 cases (typeInfo t).run p w with
 | ok a w=>dsimp only;cases a.zero<;>rfl
 | halt a w=>rfl
end
@[simp]theorem run_underlying (t:TypeId)(w:World):Sem.run prog (underlying t) w=Sem.run Tryz.prog (underlying t) w:=Je Gb t w
@[simp]theorem run_typeInfo (t:TypeId)(w:World):Sem.run prog (typeInfo t) w=Sem.run Tryz.prog (typeInfo t) w:=Hk Gb t w
@[simp]theorem run_sizeOf (t:TypeId)(w:World):Sem.run prog (sizeOf t) w=Sem.run Tryz.prog (sizeOf t) w:=A1y Gb t w
@[simp]theorem A4 (t:TypeId)(w:World):Sem.run prog (isAgg t) w=Sem.run Tryz.prog (isAgg t) w:=A4o Gb t w
@[simp]theorem A3 (t:TypeId)(w:World):Sem.run prog (zeroValue t) w=Sem.run Tryz.prog (zeroValue t) w:=To Gb t w
theorem Bl {t:TypeId}{d:TypeDesc}(h:Tryz.prog.underlying t=some d):prog.underlying t=some d:=(A2y t).trans h
theorem Aft {P:Program}{k:Nat}{fn:Func}(h:P.funcs[k]?=some fn)(hn:(fn.name == "runtime.NumGoroutine") = false)(hb:fn.body.isNone=false)(args:Array Value)(w:World):Sem.run P (callFunc k args) w=.ok (.enter k args) w:=by
 have h1:¬fn.name = "runtime.NumGoroutine" := by simpa using hn
 have h2:¬fn.body=none:=by cases hx:fn.body<;>simp_all
 unfold callFunc;simp[h,h1,h2]
@[simp]theorem Alw (args:Array Value)(w:World):Sem.run prog (callFunc 17 args) w=.ok (.enter 17 args) w:=Aft Pj (by kernel_rfl) (by kernel_rfl) args w
abbrev FE (k:Nat)(f:Func):Prop:=prog.funcs[k]?=some f
abbrev CE (k:Nat):Prop:=∀(args:Array Value) (w:World),Sem.run prog (callFunc k args) w=.ok (.enter k args) w
theorem FX {k:Nat}{f:Func}(h:Tryz.prog.funcs[k]?=some f)(h_:k≠17:=by decide)(hc_:M8.contains k=false:=by decide)(ht_:Lt.contains k=false:=by decide):FE k f:=(same h_ hc_ ht_).trans h
@[simp]theorem func5:FE 5 Tryz.f5:=FX Tryz.func5
theorem CX {k:Nat}{f:Func}(h:FE k f)(hn:(f.name == "runtime.NumGoroutine") = false:=by kernel_rfl)(hb:f.body.isNone=false:=by kernel_rfl):CE k:=fun a w=>Aft h hn hb a w
@[simp]theorem call5:CE 5:=CX func5
@[simp]theorem func6:FE 6 Tryz.f6:=FX Tryz.func6
@[simp]theorem call6:CE 6:=CX func6
@[simp]theorem func7:FE 7 Tryz.f7:=FX Tryz.func7
@[simp]theorem call7:CE 7:=CX func7
@[simp]theorem func8:FE 8 Tryz.f8:=FX Tryz.func8
@[simp]theorem call8:CE 8:=CX func8
@[simp]theorem func9:FE 9 Tryz.f9:=FX Tryz.func9
@[simp]theorem call9:CE 9:=CX func9
@[simp]theorem func10:FE 10 Tryz.f10:=FX Tryz.func10
@[simp]theorem call10:CE 10:=CX func10
@[simp]theorem func11:FE 11 Tryz.f11:=FX Tryz.func11
@[simp]theorem call11:CE 11:=CX func11
@[simp]theorem func12:FE 12 Tryz.f12:=FX Tryz.func12
@[simp]theorem call12:CE 12:=CX func12
@[simp]theorem func13:FE 13 Tryz.f13:=FX Tryz.func13
@[simp]theorem call13:CE 13:=CX func13
@[simp]theorem func14:FE 14 Tryz.f14:=FX Tryz.func14
@[simp]theorem call14:CE 14:=CX func14
@[simp]theorem func15:FE 15 Tryz.f15:=FX Tryz.func15
@[simp]theorem call15:CE 15:=CX func15
@[simp]theorem func21:FE 21 Tryz.f21:=FX Tryz.func21
@[simp]theorem call21:CE 21:=CX func21
@[simp]theorem func23:FE 23 Tryz.f23:=FX Tryz.func23
@[simp]theorem call23:CE 23:=CX func23
@[simp]theorem func24:FE 24 Tryz.f24:=FX Tryz.func24
@[simp]theorem call24:CE 24:=CX func24
@[simp]theorem func25:FE 25 Tryz.f25:=FX Tryz.func25
@[simp]theorem call25:CE 25:=CX func25
@[simp]theorem func26:FE 26 Tryz.f26:=FX Tryz.func26
@[simp]theorem call26:CE 26:=CX func26
@[simp]theorem func27:FE 27 Tryz.f27:=FX Tryz.func27
@[simp]theorem call27:CE 27:=CX func27
@[simp]theorem func28:FE 28 Tryz.f28:=FX Tryz.func28
@[simp]theorem call28:CE 28:=CX func28
@[simp]theorem func29:FE 29 Tryz.f29:=FX Tryz.func29
@[simp]theorem call29:CE 29:=CX func29
@[simp]theorem func30:FE 30 Tryz.f30:=FX Tryz.func30
@[simp]theorem call30:CE 30:=CX func30
@[simp]theorem func31:FE 31 Tryz.f31:=FX Tryz.func31
@[simp]theorem call31:CE 31:=CX func31
@[simp]theorem call32:CE 32:=CX func32
@[simp]theorem func33:FE 33 Tryz.f33:=FX Tryz.func33
@[simp]theorem call33:CE 33:=CX func33
@[simp]theorem func34:FE 34 Tryz.f34:=FX Tryz.func34
@[simp]theorem call34:CE 34:=CX func34
@[simp]theorem func35:FE 35 Tryz.f35:=FX Tryz.func35
@[simp]theorem call35:CE 35:=CX func35
@[simp]theorem func36:FE 36 Tryz.f36:=FX Tryz.func36
@[simp]theorem call36:CE 36:=CX func36
@[simp]theorem func37:FE 37 Tryz.f37:=FX Tryz.func37
@[simp]theorem call37:CE 37:=CX func37
@[simp]theorem func38:FE 38 Tryz.f38:=FX Tryz.func38
@[simp]theorem call38:CE 38:=CX func38
@[simp]theorem func39:FE 39 Tryz.f39:=FX Tryz.func39
@[simp]theorem call39:CE 39:=CX func39
@[simp]theorem func40:FE 40 Tryz.f40:=FX Tryz.func40
@[simp]theorem call40:CE 40:=CX func40
@[simp]theorem func41:FE 41 Tryz.f41:=FX Tryz.func41
@[simp]theorem call41:CE 41:=CX func41
@[simp]theorem func43:FE 43 Tryz.f43:=FX Tryz.func43
@[simp]theorem call43:CE 43:=CX func43
@[simp]theorem func44:FE 44 Tryz.f44:=FX Tryz.func44
@[simp]theorem call44:CE 44:=CX func44
@[simp]theorem func46:FE 46 Tryz.f46:=FX Tryz.func46
@[simp]theorem call46:CE 46:=CX func46
@[simp]theorem func47:FE 47 Tryz.f47:=FX Tryz.func47
@[simp]theorem call47:CE 47:=CX func47
@[simp]theorem func48:FE 48 Tryz.f48:=FX Tryz.func48
@[simp]theorem call48:CE 48:=CX func48
@[simp]theorem func49:FE 49 Tryz.f49:=FX Tryz.func49
@[simp]theorem call49:CE 49:=CX func49
@[simp]theorem func50:FE 50 Tryz.f50:=FX Tryz.func50
@[simp]theorem call50:CE 50:=CX func50
@[simp]theorem func54:FE 54 Tryz.f54:=FX Tryz.func54
@[simp]theorem call54:CE 54:=CX func54
@[simp]theorem func55:FE 55 Tryz.f55:=FX Tryz.func55
@[simp]theorem call55:CE 55:=CX func55
@[simp]theorem func58:FE 58 Tryz.f58:=FX Tryz.func58
@[simp]theorem call58:CE 58:=CX func58
@[simp]theorem func59:FE 59 Tryz.f59:=FX Tryz.func59
@[simp]theorem call59:CE 59:=CX func59
@[simp]theorem func62:FE 62 Tryz.f62:=FX Tryz.func62
@[simp]theorem call62:CE 62:=CX func62
@[simp]theorem func63:FE 63 Tryz.f63:=FX Tryz.func63
@[simp]theorem call63:CE 63:=CX func63
@[simp]theorem func64:FE 64 Tryz.f64:=FX Tryz.func64
@[simp]theorem call64:CE 64:=CX func64
@[simp]theorem func66:FE 66 Tryz.f66:=FX Tryz.func66
@[simp]theorem call66:CE 66:=CX func66
@[simp]theorem func67:FE 67 Tryz.f67:=FX Tryz.func67
@[simp]theorem call67:CE 67:=CX func67
@[simp]theorem func68:FE 68 Tryz.f68:=FX Tryz.func68
@[simp]theorem call68:CE 68:=CX func68
@[simp]theorem func69:FE 69 Tryz.f69:=FX Tryz.func69
@[simp]theorem call69:CE 69:=CX func69
@[simp]theorem func70:FE 70 Tryz.f70:=FX Tryz.func70
@[simp]theorem call70:CE 70:=CX func70
@[simp]theorem func71:FE 71 Tryz.f71:=FX Tryz.func71
@[simp]theorem call71:CE 71:=CX func71
@[simp]theorem func72:FE 72 Tryz.f72:=FX Tryz.func72
@[simp]theorem call72:CE 72:=CX func72
@[simp]theorem func73:FE 73 Tryz.f73:=FX Tryz.func73
@[simp]theorem call73:CE 73:=CX func73
@[simp]theorem call74:CE 74:=CX func74
@[simp]theorem func75:FE 75 Tryz.f75:=FX Tryz.func75
@[simp]theorem call75:CE 75:=CX func75
@[simp]theorem func76:FE 76 Tryz.f76:=FX Tryz.func76
@[simp]theorem call76:CE 76:=CX func76
@[simp]theorem func77:FE 77 Tryz.f77:=FX Tryz.func77
@[simp]theorem call77:CE 77:=CX func77
@[simp]theorem func78:FE 78 Tryz.f78:=FX Tryz.func78
@[simp]theorem call78:CE 78:=CX func78
@[simp]theorem func79:FE 79 Tryz.f79:=FX Tryz.func79
@[simp]theorem call79:CE 79:=CX func79
@[simp]theorem func80:FE 80 Tryz.f80:=FX Tryz.func80
@[simp]theorem call80:CE 80:=CX func80
@[simp]theorem func81:FE 81 Tryz.f81:=FX Tryz.func81
@[simp]theorem call81:CE 81:=CX func81
@[simp]theorem func83:FE 83 Tryz.f83:=FX Tryz.func83
@[simp]theorem call83:CE 83:=CX func83
@[simp]theorem func84:FE 84 Tryz.f84:=FX Tryz.func84
@[simp]theorem call84:CE 84:=CX func84
@[simp]theorem func85:FE 85 Tryz.f85:=FX Tryz.func85
@[simp]theorem call85:CE 85:=CX func85
@[simp]theorem func86:FE 86 Tryz.f86:=FX Tryz.func86
@[simp]theorem call86:CE 86:=CX func86
@[simp]theorem func87:FE 87 Tryz.f87:=FX Tryz.func87
@[simp]theorem call87:CE 87:=CX func87
@[simp]theorem func88:FE 88 Tryz.f88:=FX Tryz.func88
@[simp]theorem call88:CE 88:=CX func88
@[simp]theorem func89:FE 89 Tryz.f89:=FX Tryz.func89
@[simp]theorem call89:CE 89:=CX func89
@[simp]theorem func90:FE 90 Tryz.f90:=FX Tryz.func90
@[simp]theorem call90:CE 90:=CX func90
@[simp]theorem func91:FE 91 Tryz.f91:=FX Tryz.func91
@[simp]theorem call91:CE 91:=CX func91
@[simp]theorem func92:FE 92 Tryz.f92:=FX Tryz.func92
@[simp]theorem call92:CE 92:=CX func92
@[simp]theorem func93:FE 93 Tryz.f93:=FX Tryz.func93
@[simp]theorem call93:CE 93:=CX func93
@[simp]theorem func94:FE 94 Tryz.f94:=FX Tryz.func94
@[simp]theorem call94:CE 94:=CX func94
@[simp]theorem func95:FE 95 Tryz.f95:=FX Tryz.func95
@[simp]theorem call95:CE 95:=CX func95
@[simp]theorem func96:FE 96 Tryz.f96:=FX Tryz.func96
@[simp]theorem call96:CE 96:=CX func96
@[simp]theorem func97:FE 97 Tryz.f97:=FX Tryz.func97
@[simp]theorem call97:CE 97:=CX func97
@[simp]theorem func100:FE 100 Tryz.f100:=FX Tryz.func100
@[simp]theorem call100:CE 100:=CX func100
@[simp]theorem call104:CE 104:=CX func104
@[simp]theorem func105:FE 105 Tryz.f105:=FX Tryz.func105
@[simp]theorem func106:FE 106 Tryz.f106:=FX Tryz.func106
@[simp]theorem func108:FE 108 Tryz.f108:=FX Tryz.func108
@[simp]theorem func109:FE 109 Tryz.f109:=FX Tryz.func109
@[simp]theorem func119:FE 119 Tryz.f119:=FX Tryz.func119
@[simp]theorem call119:CE 119:=CX func119
@[simp]theorem call120:CE 120:=CX func120
@[simp]theorem func121:FE 121 Tryz.f121:=FX Tryz.func121
@[simp]theorem call121:CE 121:=CX func121
@[simp]theorem func122:FE 122 Tryz.f122:=FX Tryz.func122
@[simp]theorem call122:CE 122:=CX func122
@[simp]theorem call123:CE 123:=CX func123
@[simp]theorem func124:FE 124 Tryz.f124:=FX Tryz.func124
@[simp]theorem func125:FE 125 Tryz.f125:=FX Tryz.func125
@[simp]theorem func127:FE 127 Tryz.f127:=FX Tryz.func127
@[simp]theorem call127:CE 127:=CX func127
@[simp]theorem func128:FE 128 Tryz.f128:=FX Tryz.func128
@[simp]theorem call128:CE 128:=CX func128
@[simp]theorem func129:FE 129 Tryz.f129:=FX Tryz.func129
@[simp]theorem call129:CE 129:=CX func129
@[simp]theorem func130:FE 130 Tryz.f130:=FX Tryz.func130
@[simp]theorem call130:CE 130:=CX func130
@[simp]theorem func131:FE 131 Tryz.f131:=FX Tryz.func131
@[simp]theorem call131:CE 131:=CX func131
@[simp]theorem func132:FE 132 Tryz.f132:=FX Tryz.func132
@[simp]theorem call132:CE 132:=CX func132
@[simp]theorem func133:FE 133 Tryz.f133:=FX Tryz.func133
@[simp]theorem call133:CE 133:=CX func133
@[simp]theorem func134:FE 134 Tryz.f134:=FX Tryz.func134
@[simp]theorem call134:CE 134:=CX func134
@[simp]theorem func135:FE 135 Tryz.f135:=FX Tryz.func135
@[simp]theorem call135:CE 135:=CX func135
@[simp]theorem func136:FE 136 Tryz.f136:=FX Tryz.func136
@[simp]theorem call136:CE 136:=CX func136
@[simp]theorem func137:FE 137 Tryz.f137:=FX Tryz.func137
@[simp]theorem call137:CE 137:=CX func137
@[simp]theorem func138:FE 138 Tryz.f138:=FX Tryz.func138
@[simp]theorem call138:CE 138:=CX func138
@[simp]theorem func139:FE 139 Tryz.f139:=FX Tryz.func139
@[simp]theorem call139:CE 139:=CX func139
@[simp]theorem func140:FE 140 Tryz.f140:=FX Tryz.func140
@[simp]theorem call140:CE 140:=CX func140
@[simp]theorem func144:FE 144 Tryz.f144:=FX Tryz.func144
@[simp]theorem call144:CE 144:=CX func144
@[simp]theorem func153:FE 153 Tryz.f153:=FX Tryz.func153
@[simp]theorem call153:CE 153:=CX func153
@[simp]theorem func154:FE 154 Tryz.f154:=FX Tryz.func154
@[simp]theorem call154:CE 154:=CX func154
@[simp]theorem func155:FE 155 Tryz.f155:=FX Tryz.func155
@[simp]theorem call155:CE 155:=CX func155
@[simp]theorem func156:FE 156 Tryz.f156:=FX Tryz.func156
@[simp]theorem call156:CE 156:=CX func156
@[simp]theorem func160:FE 160 Tryz.f160:=FX Tryz.func160
@[simp]theorem call160:CE 160:=CX func160
@[simp]theorem func161:FE 161 Tryz.f161:=FX Tryz.func161
@[simp]theorem call161:CE 161:=CX func161
@[simp]theorem func162:FE 162 Tryz.f162:=FX Tryz.func162
@[simp]theorem call162:CE 162:=CX func162
@[simp]theorem func163:FE 163 Tryz.f163:=FX Tryz.func163
@[simp]theorem call163:CE 163:=CX func163
@[simp]theorem func164:FE 164 Tryz.f164:=FX Tryz.func164
@[simp]theorem call164:CE 164:=CX func164
@[simp]theorem func165:FE 165 Tryz.f165:=FX Tryz.func165
@[simp]theorem call165:CE 165:=CX func165
@[simp]theorem func166:FE 166 Tryz.f166:=FX Tryz.func166
@[simp]theorem call166:CE 166:=CX func166
@[simp]theorem func167:FE 167 Tryz.f167:=FX Tryz.func167
@[simp]theorem call167:CE 167:=CX func167
@[simp]theorem func168:FE 168 Tryz.f168:=FX Tryz.func168
@[simp]theorem call168:CE 168:=CX func168
@[simp]theorem func169:FE 169 Tryz.f169:=FX Tryz.func169
@[simp]theorem call169:CE 169:=CX func169
@[simp]theorem func170:FE 170 Tryz.f170:=FX Tryz.func170
@[simp]theorem call170:CE 170:=CX func170
@[simp]theorem func171:FE 171 Tryz.f171:=FX Tryz.func171
@[simp]theorem func177:FE 177 Tryz.f177:=FX Tryz.func177
@[simp]theorem call177:CE 177:=CX func177
@[simp]theorem func184:FE 184 Tryz.f184:=FX Tryz.func184
@[simp]theorem call184:CE 184:=CX func184
@[simp]theorem func185:FE 185 Tryz.f185:=FX Tryz.func185
@[simp]theorem call185:CE 185:=CX func185
@[simp]theorem func186:FE 186 Tryz.f186:=FX Tryz.func186
@[simp]theorem func187:FE 187 Tryz.f187:=FX Tryz.func187
@[simp]theorem call187:CE 187:=CX func187
@[simp]theorem func188:FE 188 Tryz.f188:=FX Tryz.func188
@[simp]theorem call188:CE 188:=CX func188
@[simp]theorem func189:FE 189 Tryz.f189:=FX Tryz.func189
@[simp]theorem call189:CE 189:=CX func189
@[simp]theorem func191:FE 191 Tryz.f191:=FX Tryz.func191
@[simp]theorem func193:FE 193 Tryz.f193:=FX Tryz.func193
@[simp]theorem call193:CE 193:=CX func193
@[simp]theorem func194:FE 194 Tryz.f194:=FX Tryz.func194
@[simp]theorem func195:FE 195 Tryz.f195:=FX Tryz.func195
@[simp]theorem call195:CE 195:=CX func195
@[simp]theorem func196:FE 196 Tryz.f196:=FX Tryz.func196
@[simp]theorem call196:CE 196:=CX func196
@[simp]theorem func197:FE 197 Tryz.f197:=FX Tryz.func197
@[simp]theorem call197:CE 197:=CX func197
@[simp]theorem func198:FE 198 Tryz.f198:=FX Tryz.func198
@[simp]theorem call198:CE 198:=CX func198
@[simp]theorem func212:FE 212 Tryz.f212:=FX Tryz.func212
@[simp]theorem func213:FE 213 Tryz.f213:=FX Tryz.func213
@[simp]theorem func214:FE 214 Tryz.f214:=FX Tryz.func214
@[simp]theorem func215:FE 215 Tryz.f215:=FX Tryz.func215
@[simp]theorem func216:FE 216 Tryz.f216:=FX Tryz.func216
@[simp]theorem func220:FE 220 Tryz.f220:=FX Tryz.func220
@[simp]theorem call220:CE 220:=CX func220
end Vp
namespace Ok
open Go.Conc Lr
theorem O8:L5 Vp.prog=true:=by kernel_rfl
def phs:List Nat:=[43,44,83,84,85,86,87,127,128,129,130,39,40,158,159,160,161,162,163,164,165,75,166,167,80,77,59,81,54,55,192,177,193,194,195,196,125,14,79,21,97,219,101,198,220,41,103,98,229,230]
def ext:List Nat:=[158,103,98,229]
theorem Ajm (tl:List (Nat×Nat))(cl gl:List Nat):L8 Vp.prog tl cl gl 158:=Ih (fn:=Tryz.f158) (by kernel_rfl) (by kernel_rfl) (by kernel_rfl) (by kernel_rfl) (e:=Extern.MathFloor.toIntegral "math.archFloor" .down) (by kernel_rfl) (.inl ⟨_,_,rfl⟩)
theorem Ajn (tl:List (Nat×Nat))(cl gl:List Nat):L8 Vp.prog tl cl gl 103:=Ih (fn:=Tryz.f103) (by kernel_rfl) (by kernel_rfl) (by kernel_rfl) (by kernel_rfl) (e:=Extern.MathFloatBits.float64frombits) (by kernel_rfl) (.inr (.inr (.inl rfl)))
theorem Ajo (tl:List (Nat×Nat))(cl gl:List Nat):L8 Vp.prog tl cl gl 98:=Ih (fn:=Tryz.f98) (by kernel_rfl) (by kernel_rfl) (by kernel_rfl) (by kernel_rfl) (e:=Extern.MathFloatBits.float64bits) (by kernel_rfl) (.inr (.inl rfl))
theorem Ajp (tl:List (Nat×Nat))(cl gl:List Nat):L8 Vp.prog tl cl gl 229:=Ih (fn:=Tryz.f229) (by kernel_rfl) (by kernel_rfl) (by kernel_rfl) (by kernel_rfl) (e:=Extern.MathFloor.toIntegral "math.archTrunc" .zero) (by kernel_rfl) (.inl ⟨_,_,rfl⟩)
theorem Agn {tl:List (Nat×Nat)}{cl gl:List Nat}(h:(cl.filter fun f=>!(ext.contains f)).all (chk Vp.prog tl cl gl)=true):∀f∈cl,L8 Vp.prog tl cl gl f:=by
 intro f hf
 by_cases hx:ext.contains f=true
 ·have hx:f∈ext:=by simpa using hx
  simp only[ext,An7,An6,Ap5]at hx
  rcases hx with rfl|rfl|rfl|rfl
  ·exact Ajm _ _ _
  ·exact Ajn _ _ _
  ·exact Ajo _ _ _
  ·exact Ajp _ _ _
 ·refine A60 ?_
  rw[Aoa]at h
  exact h f (List.mem_filter.2 ⟨hf,by simpa using hx⟩)
theorem Ald:(phs.filter fun f=>!(ext.contains f)).all (chk Vp.prog [] phs [])=true:=by kernel_rfl
theorem Za:∀f:Nat,Tryz.prog.funcs[f]?=Vp.prog.funcs[f]?\/∃fn fn':Func,Vp.prog.funcs[f]?=some fn/\Tryz.prog.funcs[f]?=some fn'/\fn'.name=fn.name/\fn'.results=fn.results:=by
 intro f
 by_cases h:f=17
 ·subst h
  exact .inr ⟨Vp.fT,Tryz.f17,Vp.Pj,Tryz.func17,by kernel_rfl,by kernel_rfl⟩
 ·by_cases hc:Vp.M8.contains f=true
  ·obtain⟨fn,fn',c,ids,h1,h2,h3,h4,_⟩:=Vp.Adt f hc
   exact .inr ⟨fn,fn',h2,h1,h3.symm,h4.symm⟩
  ·by_cases ht:Vp.Lt.contains f=true
   ·obtain⟨fn,fn',h1,h2,h3,h4⟩:=Vp.Akw f ht
    exact .inr ⟨fn,fn',h2,h1,h3.symm,h4.symm⟩
   ·exact .inl (Vp.same h (by simpa using hc) (by simpa using ht)).symm
theorem Adp (ids:List Nat)(c:Code):Vp.Da ids c=I0 ids c:=by
 induction c<;>simp_all [Vp.Da,I0,A4d]
theorem Adt {f:Nat}(h:Vp.M8.contains f=true):Agf Vp.prog Tryz.prog f:=by
 obtain⟨fn,fn',c,ids,h1,h2,h3,h4,h5,h6,h7⟩:=Vp.Adt f h
 exact⟨fn,fn',c,ids,h1,h2,h3,h4,h5,h6,by rw[h7,Adp]⟩
theorem A6k {f:Nat}(h:f≠17)(ht:Vp.Lt.contains f=false):Tryz.prog.funcs[f]?=Vp.prog.funcs[f]?\/Agf Vp.prog Tryz.prog f:=by
 by_cases hc:Vp.M8.contains f=true
 ·exact .inr (Adt hc)
 ·exact .inl (Vp.same h (by simpa using hc) ht).symm
theorem A8g:phs.all (fun f=>!(Vp.M8.contains f) && !(Vp.Lt.contains f))=true:=by kernel_rfl
theorem whole (Q:String->Code->Prop)(D F:Nat->Prop):Whole (cx Vp.prog phs Q D F) Vp.prog Tryz.prog :=
 Ad5 O8 Vp.Gb.symm Vp.size.symm (fun f hf=>by
  have ht:f≠17:=fun e=>by subst e;revert hf;decide
  exact⟨Agn Ald f hf,(by
   have:=Aoa.1 A8g f hf;simp only[Am8,Apf]at this
   exact(Vp.same ht this.1 this.2).symm)⟩) Za
end Ok
section
open Go.Conc Bar Co
theorem Agz {P:Program}{a:Act}{o:Oper}{i:Nat}{t t':TypeId}(hop:o.op=.binOp .mul t (.tmp i) (.const (.int .i64 0)) t') :
 (∃n,a.eval (.tmp i)=.int .i64 n/\∃v,∀w,(execOp a.eval o).run P w=.ok (.value v) w)\/∀w,∃s,(execOp a.eval o).run P w=.halt s w /\((∃m,s=.stuck m)\/s=.unsupported .addressObserved):=by
 have ec:a.eval (.const (.int .i64 0))=.int .i64 0:=rfl
 rcases Ael (P:=P) (t:=t) (a.eval (.tmp i))with⟨n,h⟩|h
 ·refine .inl ⟨n,h,?_⟩
  unfold execOp;simp only[hop];rw[ec,h];simp[eqGuard,binOp,Op.intArith]
 ·refine .inr fun w=>?_
  obtain⟨s,h1,h2⟩:=h w
  refine⟨s,?_,h2⟩
  unfold execOp;simp only[hop];rw[ec];simp[eqGuard,h1]
theorem Akn {P:Program}{a:Act}{o:Oper}{i:Nat}{ts:Array TypeId}(hop:o.op=.call { callee:=.builtin .real,args:=#[.tmp i],argTypes:=ts }) :
 (∃k x y,a.eval (.tmp i)=.complex k x y/\∀w,(execOp a.eval o).run P w=.ok (.value (.float k x)) w)\/∀w,∃s,(execOp a.eval o).run P w=.halt s w /\((∃m,s=.stuck m)\/s=.unsupported .addressObserved):=by
 have yes:∀(k:FloatKind) (x y:Nat) (t:TypeId),Builtin.real_ ts t #[.complex k x y]=pure (.float k x):=fun _ _ _ _=>rfl
 have no:∀(v:Value) (t:TypeId),(∀k x y,v≠.complex k x y)->∃m,Builtin.real_ ts t #[v]=stuck m:=fun v t h=>by
  cases v<;>first
   | exact absurd rfl (h _ _ _)
   | exact⟨_,rfl⟩
 have key:∀w,(execOp a.eval o).run P w=(do pure (Next.value (<-Builtin.real_ ts o.type #[a.eval (.tmp i)]))).run P w:=fun w=>by
  unfold execOp;simp only[hop];simp only[resolve,invoke,builtin,List.map_toArray,Apw,List.map_nil,pure_bind]
 by_cases h:∃k x y,a.eval (.tmp i)=.complex k x y
 ·obtain⟨k,x,y,h⟩:=h
  exact .inl ⟨k,x,y,h,fun w=>by rw[key,h,yes];simp⟩
 ·obtain⟨m,hm⟩:=no (a.eval (.tmp i)) o.type fun k x y e=>h ⟨k,x,y,e⟩
  exact .inr fun w=>⟨.stuck m,by rw[key,hm];simp,.inl ⟨_,rfl⟩⟩
theorem Alf {P:Program}{a:Act}{o:Oper}{i:Nat}{t t':TypeId}(hop:o.op=.binOp .lss t (.tmp i) (.const (.float .f32 0)) t'){k:FloatKind}{x:Nat}(hv:a.eval (.tmp i)=.float k x) :
 (k=.f32/\∃v,∀w,(execOp a.eval o).run P w=.ok (.value v) w)\/∀w,∃s,(execOp a.eval o).run P w=.halt s w /\((∃m,s=.stuck m)\/s=.unsupported .addressObserved):=by
 have ec:a.eval (.const (.float .f32 0))=.float .f32 0:=rfl;unfold execOp;simp only[hop];rw[ec,hv]
 cases k with
 | f32=>exact .inl ⟨rfl,by simp[eqGuard,binOp,Op.floatCmp]⟩
 | f64=>exact .inr fun w=>by simp[eqGuard,binOp]
theorem Uc {P:Program}{F:St->Prop}(hF:∀x,F x->Vl x){b:Frame}{a:Act}{ops:Array Oper}{i:Nat}{rest:List Nat}{k:List Item}{cs:List Frame}{V:World}{o:Oper}(ho:ops[i]?=some o)(hg:o.guard=none)(hk:b.kind≠.early)
 (hr:∀w,∃s,(execOp a.eval o).run P w=.halt s w /\((∃m,s=.stuck m)\/s=.unsupported .addressObserved)) (h:Bar.Way P F ⟨b.at a (.inRegion ops (i :: rest) :: k),cs,V⟩):False:=by
 have h1:=(Kg hF ho hg hk (v:=undef) (.inr hr) h).1 V;obtain⟨s,h2,_⟩:=hr V;rw[h1]at h2
 cases h2
noncomputable def vB:Code:=Vp.fT.body.getD .skip
noncomputable def vK:Code:=match vB with|.seq _ k=>k|_=>.skip
theorem Aky:vB=.seq (.region 90 Vp.guards false) vK:=by
 unfold vK vB;rw[Vp.Afs]
 cases h:Tryz.f18.body with
 | none=>have:Tryz.f18.body.isNone=false:=by kernel_rfl
         rw[h]at this;cases this
 | some c=>rfl
theorem Aff:Vp.fT.body=some vB:=by
 unfold vB
 cases h:Vp.fT.body with
 | none =>
   rw[Vp.Afs]at h;have:Tryz.f18.body.isNone=false:=by kernel_rfl
   cases h':Tryz.f18.body with
   | none=>rw[h']at this;cases this
   | some c=>rw[h']at h;cases h
 | some c=>rfl
def bV:Frame:={ fn:=17,tmps:=#[],todo:=[],defers:=[],mode:=.run,kind:=.normal }
theorem Adv (p:Array Value):Frame.enter Vp.prog 17 p .normal=bV.at ⟨p++Array.replicate (81-p.size) undef,[]⟩ [.code vB]:=by
 unfold Frame.enter;rw[Vp.Pj];dsimp only[Option.map_some,Option.getD_some,Option.bind_some];rw[Vp.A4f,Aff]
 rfl
theorem Ac2 {F:St->Prop}(hF:∀x,F x->Vl x){p:Array Value}(hs:p.size=4){cs:List Frame}{V:World}(h:Bar.Way Vp.prog F ⟨Frame.enter Vp.prog 17 p .normal,cs,V⟩) :
 ∃(x y:Nat) (a b m:Int),p=#[.complex .f32 x y,.int .i64 a,.int .i64 b,.int .i64 m]:=by
 rw[Adv,Aky]at h;have h:=A6v hF rfl stepG_seq h;have h:=A6v hF rfl stepG_region h;have hr:List.range Vp.guards.size=[0,1,2,3,4]:=rfl;rw[hr]at h;generalize hT:p++Array.replicate (81-p.size) undef=T at h;have hTs:T.size=81:=by rw[<-hT];simp;omega
 have hTk:∀k,k<4->T[k]?=p[k]?:=fun k hk=>by rw[<-hT,Array.getElem?_append_left (by omega)]
 clear hT;have hk:bV.kind≠.early:=by simp[bV]
 have ev:∀(A:Act) (j:Nat),A.eval (.tmp j)=A.tmps.getD j undef:=fun A j=>rfl
 obtain⟨p0,e0⟩:∃v,p[0]?=some v:=⟨_,Am6 (by omega)⟩
 obtain⟨p1,e1⟩:∃v,p[1]?=some v:=⟨_,Am6 (by omega)⟩
 obtain⟨p2,e2⟩:∃v,p[2]?=some v:=⟨_,Am6 (by omega)⟩
 obtain⟨p3,e3⟩:∃v,p[3]?=some v:=⟨_,Am6 (by omega)⟩
 have hp:p=#[p0,p1,p2,p3]:=by
  apply Ank
  intro i
  match i with
  | 0=>exact e0
  | 1=>exact e1
  | 2=>exact e2
  | 3=>exact e3
  | i+4=>rw[Ao0 (by omega)];rfl
 have gt:∀(A:Act) (j:Nat) (v:Value),A.tmps[j]?=some v->A.eval (.tmp j)=v:=fun A j v hv=>by rw[ev,Amf,hv];rfl
 rcases Akn (P:=Vp.prog) (a:=⟨T,[]⟩) (o:=Vp.guards[0]) (i:=0) rfl with⟨k,x,y,v0,r0⟩|r0
 case inr=>exact(Uc hF (ops:=Vp.guards) (i:=0) rfl rfl hk r0 h).elim
 have h:=(Kg hF (ops:=Vp.guards) (i:=0) rfl rfl hk (.inl r0) h).2;have z0:p0=.complex k x y:=by rw[<-v0];exact(gt _ _ _ ((hTk 0 (by decide)).trans e0)).symm
 have hd0:Vp.guards[0].dst=some 76:=rfl;rw[hd0]at h;have s1:(⟨T,[]⟩:Act).put (some 76) (.float k x)=⟨T.setIfInBounds 76 (.float k x),[]⟩:=rfl;rw[s1]at h
 rcases Alf (P:=Vp.prog) (a:=⟨T.setIfInBounds 76 (.float k x),[]⟩) (o:=Vp.guards[1]) (i:=76) rfl (gt _ 76 (.float k x) (Am7 (by omega)))with⟨rfl,v1,r1⟩|r1
 case inr=>exact(Uc hF (ops:=Vp.guards) (i:=1) rfl rfl hk r1 h).elim
 have h:=(Kg hF (ops:=Vp.guards) (i:=1) rfl rfl hk (.inl r1) h).2;have hd1:Vp.guards[1].dst=some 80:=rfl;rw[hd1]at h;have s2:(⟨T.setIfInBounds 76 (.float .f32 x),[]⟩:Act).put (some 80) v1=⟨(T.setIfInBounds 76 (.float .f32 x)).setIfInBounds 80 v1,[]⟩:=rfl;rw[s2]at h;generalize hU:(T.setIfInBounds 76 (.float .f32 x)).setIfInBounds 80 v1=U at h;have hUk:∀j,j<4->U[j]?=T[j]?:=fun j hj=>by rw[<-hU,Alz (by omega),Alz (by omega)]
 clear hU
 rcases Agz (P:=Vp.prog) (a:=⟨U,[]⟩) (o:=Vp.guards[2]) (i:=1) rfl with⟨a,va,u2,r2⟩|r2
 case inr=>exact(Uc hF (ops:=Vp.guards) (i:=2) rfl rfl hk r2 h).elim
 have h:=(Kg hF (ops:=Vp.guards) (i:=2) rfl rfl hk (.inl r2) h).2;have hd2:Vp.guards[2].dst=some 77:=rfl;rw[hd2]at h;have s3:(⟨U,[]⟩:Act).put (some 77) u2=⟨U.setIfInBounds 77 u2,[]⟩:=rfl;rw[s3]at h
 rcases Agz (P:=Vp.prog) (a:=⟨U.setIfInBounds 77 u2,[]⟩) (o:=Vp.guards[3]) (i:=2) rfl with⟨b,vb,u3,r3⟩|r3
 case inr=>exact(Uc hF (ops:=Vp.guards) (i:=3) rfl rfl hk r3 h).elim
 have h:=(Kg hF (ops:=Vp.guards) (i:=3) rfl rfl hk (.inl r3) h).2;have hd3:Vp.guards[3].dst=some 78:=rfl;rw[hd3]at h;have s4:(⟨U.setIfInBounds 77 u2,[]⟩:Act).put (some 78) u3=⟨(U.setIfInBounds 77 u2).setIfInBounds 78 u3,[]⟩:=rfl;rw[s4]at h
 rcases Agz (P:=Vp.prog) (a:=⟨(U.setIfInBounds 77 u2).setIfInBounds 78 u3,[]⟩) (o:=Vp.guards[4]) (i:=3) rfl with⟨m,vm,u4,r4⟩|r4
 case inr=>exact(Uc hF (ops:=Vp.guards) (i:=4) rfl rfl hk r4 h).elim
 have z1:p1=.int .i64 a:=by rw[<-va];exact(gt _ _ _ ((hUk 1 (by decide)).trans ((hTk 1 (by decide)).trans e1))).symm
 have z2:p2=.int .i64 b:=by rw[<-vb];exact(gt _ _ _ ((Alz (by decide)).trans ((hUk 2 (by decide)).trans ((hTk 2 (by decide)).trans e2)))).symm
 have z3:p3=.int .i64 m:=by rw[<-vm];exact(gt _ _ _ ((Alz (by decide)).trans ((Alz (by decide)).trans ((hUk 3 (by decide)).trans ((hTk 3 (by decide)).trans e3))))).symm
 exact⟨x,y,a,b,m,by rw[hp,z0,z1,z2,z3]⟩
end
end Go.Proofs.YtjaehldnlamgkaaGreatDoor
