import Derived.Test.YtjaehldnlamgkaaGreatDoorXe18
import Derived.Lib.OthersKept
import Derived.RangeFuncNested
import Derived.Lib.Walk
import Derived.Shelf.Strings.SplitCore
import Derived.Lib.CutLaws
import Derived.Lib.IndexMore
import Derived.Lib.IndexBytes
import Derived.Lib.SplitLaws
import Derived.Lib.ItoaMem
import Derived.Lib.AppendIntMem
import Derived.BigCall
import Derived.BigGuard
import Derived.Test.YtjaehldnlamgkaaGreatDoorXe0
import Derived.Test.YtjaehldnlamgkaaGreatDoorXeK
set_option linter.all false
set_option maxHeartbeats 16000000
set_option maxRecDepth 100000
namespace Go.Proofs.YtjaehldnlamgkaaGreatDoor
section
open Go.RowKit
def O9 (B b:Nat)(l:List UInt8)(w:World):Prop:=Lib.IsBuilderF 67 5 B b (Lib.byteCells l) w
structure Ez (B b:Nat)(w w':World):Prop where
 below:Below B w w'
 others:Lib.OthersKept 5 (some b) w w'
theorem Ez.refl (B b:Nat)(w:World):Ez B b w w:=⟨Amc _ _,Lib.OthersKept.refl _ _ _⟩
theorem Ez.trans {B b:Nat}{x y z:World}(h:Ez B b x y)(k:Ez B b y z):Ez B b x z:=⟨h.below.trans k.below,h.others.trans k.others⟩
theorem O9.new (w:World):O9 w.heap.size w.heap.size [] (w.alloc (.cells #[.pointer none,.slice none 0 0] 67)):=by
 refine .inl ⟨Am0 _,.slice none 0 0,?_,⟨by simp[Lib.byteCells],.inl ⟨rfl,rfl⟩⟩,by simp[Value.ownBlock]⟩
 exact(MapKept.heap_alloc w _).1
theorem O9.lt {B b:Nat}{l:List UInt8}{w:World}(h:O9 B b l w):b<w.heap.size/\B<=b:=by
 have:∀p,Lib.BuilderAtF 67 5 B b p (Lib.byteCells l) w->b<w.heap.size/\B<=b:=fun p ⟨hB,v,hb,_,_⟩=>⟨(Alx.1 hb).1,hB⟩
 rcases h with h|h
 ·exact this _ h
 ·exact this _ h
theorem O9.own {B b:Nat}{l:List UInt8}{W W':World}{row:Option Nat}(h:O9 B b l W)(hg:W.grownBy W' row)(hr:∀r,row=some r->∃o:Obj,W.heap[r]?=some o/\o.isCells=false):O9 B b l W':=by
 have one:∀p,Lib.BuilderAtF 67 5 B b p (Lib.byteCells l) W->Lib.BuilderAtF 67 5 B b p (Lib.byteCells l) W':=by
  rintro p ⟨hB,v,hb,⟨hl,hrow⟩,hne⟩
  refine⟨hB,v,(grownBy_keeps_cells hg hr hb rfl).trans hb,⟨hl,?_⟩,hne⟩
  rcases hrow with h |⟨g,cap,cur,fz,h1,h2,h3,h4⟩
  ·exact .inl h
  ·exact .inr ⟨g,cap,cur,fz,h1,h2,(grownBy_keeps_cells hg hr h3 rfl).trans h3,h4⟩
 exact h.elim (fun x=>.inl (one _ x)) (fun x=>.inr (one _ x))
theorem O9.isCells {B b:Nat}{l:List UInt8}{W:World}(h:O9 B b l W):∃o:Obj,W.heap[b]?=some o/\o.isCells=true:=by
 rcases h with⟨_,v,hb,_⟩ |⟨_,v,hb,_⟩
 ·exact⟨_,hb,rfl⟩
 ·exact⟨_,hb,rfl⟩
theorem Ez.block {B b k:Nat}{W W':World}{o:Obj}(h:Ez B b W W')(hk:W.heap[k]?=some o)(hne:k≠b)(ho:∀c fz,o≠.cells c 5 fz):W'.heap[k]?=some o :=
 h.others k o hk (fun e=>hne (Aml e)) ho
theorem Pp:(Vp.prog.info? 67).map (·.size)=some 2:=by kernel_rfl
theorem liesBuilder:liesAt Vp.prog Vp.prog.depth 67 (2 / Vp.prog.cellsOf 67) 0 67 1=true:=by kernel_rfl
theorem infoByte:(Vp.prog.info? 5).map (fun i=>(i.zero,i.size,i.bytes))=some (some (.int .u8 0),1,1):=by kernel_rfl
theorem Rr (b:Nat)(w:World)(h0:w.cell? ⟨b,0,none⟩=some (.pointer (some ⟨b,0,none⟩))) :
 Calls Vp.prog 69 #[.pointer (some ⟨b,0,none⟩)] w fun e w'=>e=.returned (.tuple #[])/\w=w':=by
 obtain⟨j,hj,_⟩:=Ami.1 Pp
 go_enter Vp.func69,Tryz.ntmps69
 go_wp2
 rw[Lib.run_neq_ptr_same w _ (Vp.Bl Tryz.underlying65) hj]
 go_wp2
 go_end0
 exact⟨rfl,rfl⟩
theorem Ja (b:Nat)(w:World)(h0:w.cell? ⟨b,0,none⟩=some (.pointer none))(hsh:w.shape? b=some (67,2))(hf:w.frozen? ⟨b,0,none⟩=false) :
 Calls Vp.prog 69 #[.pointer (some ⟨b,0,none⟩)] w fun e w'=>e=.returned (.tuple #[])/\w.setCell ⟨b,0,none⟩ (.pointer (some ⟨b,0,none⟩))=w':=by
 obtain⟨j,hj,hjs⟩:=Ami.1 Pp
 go_enter Vp.func69,Tryz.ntmps69
 go_wp2
 rw[Lib.run_to_unsafe w ⟨b,0,none⟩ (Vp.Bl Tryz.underlying65) (Vp.Bl Tryz.underlying158) hj (by rw[hjs];decide) hsh (Nat.zero_lt_succ 1)]
 simp only[Result.andThen];rw[Oper.upon_value]
 go_wp2
 rw[run_callFunc_extern Vp.func105 (by kernel_rfl) (by kernel_rfl) (by kernel_rfl) (e:=Extern.AbiNoEscape.same) (by kernel_rfl)]
 rw[Lib.run_noEscape];simp only[Result.andThen];rw[Oper.upon_value]
 go_wp2
 rw[Lib.run_from_unsafe w ⟨b,0,none⟩ (Vp.Bl Tryz.underlying158) (Vp.Bl Tryz.underlying65) hj hsh liesBuilder];simp only[Result.andThen];rw[Oper.upon_value]
 go_wp2
 go_end0
 exact⟨rfl,rfl⟩
theorem Ll (B b:Nat)(bs:List Value)(w:World)(h:Lib.IsBuilderF 67 5 B b bs w) :
 Calls Vp.prog 69 #[.pointer (some ⟨b,0,none⟩)] w fun e w'=>e=.returned (.tuple #[])/\Lib.BuilderAtF 67 5 B b (.pointer (some ⟨b,0,none⟩)) bs w'/\Ez B b w w':=by
 rcases h with h|h
 ·refine(Ja b w h.cell0 h.shape h.frozen0).mono ?_
  rintro e w' ⟨rfl,rfl⟩
  exact⟨rfl,h.used _,(Amc B w).setCell (p:=⟨b,0,none⟩) h.1 _,(Lib.OthersKept.refl _ _ w).setCell ⟨b,0,none⟩ rfl _⟩
 ·refine(Rr b w h.cell0).mono ?_
  rintro e w' ⟨rfl,rfl⟩
  exact⟨rfl,h,Ez.refl _ _ _⟩
theorem Lg (B b:Nat)(l:List UInt8)(c:UInt8)(w:World)(h:O9 B b l w)(hlen:l.length<=1099511627776)(hBw:B<=w.heap.size) :
 Calls Vp.prog 33 #[.pointer (some ⟨b,0,none⟩),.int .u8 c.toNat] w fun e w'=>e=.returned .nilIface/\O9 B b (l++[c]) w'/\Ez B b w w':=by
 obtain⟨i0,hi,hz0,hz1,hz2⟩:=Ap2 infoByte;have hbl:(Lib.byteCells l).length=l.length:=Lib.byteCells_length l;have happ:Lib.byteCells (l++[c])=Lib.byteCells l++[.int .u8 c.toNat]:=by simp[Lib.byteCells]
 unfold O9 at h ⊢;rw[happ];clear happ;have hlen':(Lib.byteCells l).length<=1099511627776:=by omega
 clear hbl hlen;generalize Lib.byteCells l=bs at *
 go_enter Vp.func33,Tryz.ntmps33
 go_wp2_with (go_at_call 69;refine(Ll B b bs _ h).mono ?_)
 rintro e w1 ⟨rfl,h1,hb1,hk1⟩;obtain⟨hB,v,hbk,hown,hne⟩:=h1;have c0:w1.cell? ⟨b,0,none⟩=some (.pointer (some ⟨b,0,none⟩)):=by rw[Amb hbk];rfl
 have c1:w1.cell? ⟨b,1,none⟩=some v:=by rw[Amb hbk];rfl
 go_wp2_with (at_builtin;refine wpList_append_ownF _ rfl _ _ 22 rfl B 5 i0 (.int .u8 0) 1 1 (Vp.Bl Tryz.underlying22) hi hz0 hz1 hz2 rfl (by decide) _ _ _ rfl (hown.alloc _) ⟨w1.heap.size,0,none⟩ 1 1 [.int .u8 c.toNat] rfl rfl ?c1 ?c2 ?c3 ?c4 ?c5 ?_)
 case c1 =>
  intro j u hj
  match j,hj with
  | 0,hj=>simp at hj;subst hj;simp[Addr.add]
 case c2=>intro u hu;simp at hu;subst hu;rfl
 case c3=>unfold maxLen;omega
 case c4=>omega
 case c5=>have:=hb1.size;simp;omega
 intro v' w2 hown' hgrow _;have hlt:b<w1.heap.size:=(Alx.1 hbk).1
 have hb2:w2.heap[b]?=some (.cells #[.pointer (some ⟨b,0,none⟩),v] 67 (0,0)):=by
  rw[hgrow.block b (by simp;omega) (fun e=>hne e.symm),Lib.alloc_old w1 _ b hlt]
  exact hbk
 have d0:w2.cell? ⟨b,0,none⟩=some (.pointer (some ⟨b,0,none⟩)):=by rw[Amb hb2];rfl
 have d1:w2.cell? ⟨b,1,none⟩=some v:=by rw[Amb hb2];rfl
 have f1:w2.frozen? ⟨b,1,none⟩=false:=Aog hb2 1
 obtain⟨g,cap,rfl⟩:∃g cap,v'=.slice (some ⟨g,0,none⟩) (bs.length+1) cap:=by
  rcases hown'.2 with⟨_,h0⟩ |⟨g,cap,cur,fz,hv,_⟩
  ·omega
  ·exact⟨g,cap,hv⟩
 go_wp2
 go_ret
 refine⟨rfl,?_,?_,((hk1.alloc _).grown hgrow (Lib.ownsRowF_kind (hown.alloc _))).setCell ⟨b,1,none⟩ rfl _⟩
 ·exact .inr (Lib.BuilderAtF.put (T:=67) (e:=5) hB hb2 (bs':=bs++[.int .u8 c.toNat]) (by simpa using hown') (by decide))
 ·exact((hb1.alloc (by have:=hb1.size;omega) _).grown hgrow (by have:=hb1.size;simp;omega) (fun k hk=>(hown.lt k hk).1)).setCell (p:=⟨b,1,none⟩) hB _
theorem A3e (B b:Nat)(l:List UInt8)(w:World)(h:O9 B b l w)(hBw:B<=w.heap.size) :
 Calls Vp.prog 36 #[.pointer (some ⟨b,0,none⟩)] w fun e w'=>e=.returned (.string ⟨l.toArray⟩)/\Ez B b w w' :=
 (Vsh.Builder_String_any_k B b l w h hBw).mono fun _ _ ⟨he,_,hb,hk⟩=>⟨he,hb,hk⟩
theorem Fu (B b:Nat)(l:List UInt8)(s:ByteArray)(w:World)(h:O9 B b l w)(hlen:l.length+s.size<=1099511627776)(hBw:B<=w.heap.size) :
 Calls Vp.prog 31 #[.pointer (some ⟨b,0,none⟩),.string s] w fun e w'=>e=.returned (.tuple #[.int .i64 s.size,.nilIface])/\O9 B b (l++s.data.toList) w'/\Ez B b w w':=by
 obtain⟨i0,hi,hz0,hz1,hz2⟩:=Ap2 infoByte;have hbl:(Lib.byteCells l).length=l.length:=Lib.byteCells_length l;have happ:Lib.byteCells (l++s.data.toList)=Lib.byteCells l++Lib.strCells s:=by rw[Lib.strCells_eq];simp[Lib.byteCells]
 unfold O9 at h ⊢;rw[happ];clear happ;have hlen':(Lib.byteCells l).length+s.size<=1099511627776:=by omega
 clear hbl hlen;generalize Lib.byteCells l=bs at *
 go_enter Vp.func31,Tryz.ntmps31
 go_wp2_with (go_at_call 69;refine(Ll B b bs _ h).mono ?_)
 rintro e w1 ⟨rfl,h1,hb1,hk1⟩;obtain⟨hB,v,hbk,hown,hne⟩:=h1;have c0:w1.cell? ⟨b,0,none⟩=some (.pointer (some ⟨b,0,none⟩)):=by rw[Amb hbk];rfl
 have c1:w1.cell? ⟨b,1,none⟩=some v:=by rw[Amb hbk];rfl
 go_wp2_with (at_builtin;refine Lib.wpList_append_own_stringF _ rfl _ _ 22 9 rfl B 5 i0 (Vp.Bl Tryz.underlying22) (Vp.Bl Tryz.underlying9) hi hz0 hz1 hz2 _ _ _ rfl hown s rfl ?c3 ?c4 ?c5 ?_)
 case c3=>unfold maxLen;omega
 case c4=>omega
 case c5=>have:=hb1.size;omega
 intro v' w2 hown' hgrow _;have hlt:b<w1.heap.size:=(Alx.1 hbk).1
 have hb2:w2.heap[b]?=some (.cells #[.pointer (some ⟨b,0,none⟩),v] 67 (0,0)):=by
  rw[hgrow.block b hlt (fun e=>hne e.symm)]
  exact hbk
 have d0:w2.cell? ⟨b,0,none⟩=some (.pointer (some ⟨b,0,none⟩)):=by rw[Amb hb2];rfl
 have d1:w2.cell? ⟨b,1,none⟩=some v:=by rw[Amb hb2];rfl
 have f1:w2.frozen? ⟨b,1,none⟩=false:=Aog hb2 1
 obtain⟨ao,n',cap,rfl⟩:∃ao n' cap,v'=.slice ao n' cap:=by
  rcases hown'.2 with⟨hv,_⟩ |⟨g,cap,cur,fz,hv,_⟩
  ·exact⟨_,_,_,hv⟩
  ·exact⟨_,_,_,hv⟩
 go_wp2
 go_ret2
 refine⟨rfl,?_,?_,(hk1.grown hgrow (Lib.ownsRowF_kind hown)).setCell ⟨b,1,none⟩ rfl _⟩
 ·exact .inr (Lib.BuilderAtF.put (T:=67) (e:=5) hB hb2 (bs':=bs++Lib.strCells s) (by simpa [Lib.strCells_length]using hown') (by decide))
 ·exact(hb1.grown hgrow (by have:=hb1.size;omega) (fun k hk=>(hown.lt k hk).1)).setCell (p:=⟨b,1,none⟩) hB _
end
section
open Go.RowKit
theorem J0 (B b:Nat)(bs:List Value)(s:ByteArray)(w:World)(h:Lib.IsBuilder 67 5 B b bs w)(hlen:bs.length+s.size<=140737488355328)(hBw:B<=w.heap.size) :
 Calls Vp.prog 31 #[.pointer (some ⟨b,0,none⟩),.string s] w fun e w'=>e=.returned (.tuple #[.int .i64 s.size,.nilIface]) /\(Lib.BuilderAt 67 5 B b (.pointer (some ⟨b,0,none⟩)) (bs++Lib.strCells s) w'/\Below B w w') :=
 Any.Builder_WriteString Vsh.Aeb Vsh.My B b bs s w h hlen hBw
theorem A3x (B b n:Nat)(w:World)(hB:B<=b)(hbk:w.heap[b]?=some (.cells #[.pointer none,.slice none 0 0] 67 (0,0)))(hBw:B<=w.heap.size)(hn:n<=281474976710656) :
 Calls Vp.prog 123 #[.pointer (some ⟨b,0,none⟩),.int .i64 n] w fun e w'=>e=.returned (.tuple #[]) /\(Lib.BuilderAt 67 5 B b (.pointer (some ⟨b,0,none⟩)) [] w'/\Below B w w'):=by
 have mixed:Vp.prog.follows .mixedOrders=true:=by kernel_rfl
 have hbk1:(w.setCell ⟨b,0,none⟩ (.pointer (some ⟨b,0,none⟩))).heap[b]?=some (.cells #[.pointer (some ⟨b,0,none⟩),.slice none 0 0] 67 (0,0)):=by
  simp[World.setCell,Aoq,hbk]
 have c1:(w.setCell ⟨b,0,none⟩ (.pointer (some ⟨b,0,none⟩))).cell? ⟨b,1,none⟩=some (.slice none 0 0):=by rw[Amb hbk1];rfl
 have hb1:Below B w (w.setCell ⟨b,0,none⟩ (.pointer (some ⟨b,0,none⟩))):=(Amc B w).setCell (p:=⟨b,0,none⟩) hB _
 go_enter Vp.func123,(Vp.A8d.trans Tryz.ntmps123)
 simp only[Vp.Da,Anj,Anq,Nat.reduceBEq,Aop,Amk,Ao5,Apg];have hU:Lib.BuilderAt 67 5 B b (.pointer (some ⟨b,0,none⟩)) [] (w.setCell ⟨b,0,none⟩ (.pointer (some ⟨b,0,none⟩))):=⟨hB,.slice none 0 0,hbk1,World.ownsRow_nil _ _ _ _,by simp[Value.ownBlock]⟩
 have c1':(w.setCell ⟨b,0,none⟩ (.pointer (some ⟨b,0,none⟩))).drew.cell? ⟨b,1,none⟩=some (.slice none 0 0):=c1
 go_wp2_with (go_at_call 69;refine(Ja b w (by rw[Amb hbk];rfl) (by simp[World.shape?,hbk]) (Aog hbk 0)).mono ?_;rintro e w' ⟨rfl,rfl⟩)
 go_region_o
 all_goals go_wp2_with (go_at_call 156;refine(Vsh.Builder_grow_fresh B b n (w.setCell ⟨b,0,none⟩ (.pointer (some ⟨b,0,none⟩))).drew hB hbk1 (by simpa [World.setCell,World.drew,-World.drew_eq]using hBw) hn).mono ?_;rintro e w' ⟨rfl,h1,h2⟩)
 all_goals first
  |(go_end0;exact⟨rfl,h1,hb1.drew.trans h2⟩)
  |(go_end0;exact⟨rfl,hU.drew,hb1.drew⟩)
theorem join_none (a:Option Addr)(c:Nat)(sep:ByteArray)(w:World) :
 Calls Vp.prog 74 #[.slice a 0 c,.string sep] w fun e w'=>e=.returned (.string ⟨#[]⟩)/\w=w':=by
 go_enter Vp.func74,(Vp.Ta.trans Tryz.ntmps74)
 simp only[Vp.Da,Anj,Anq,Nat.reduceBEq,Aop,Amk,Ao5,Apg]
 go_wp2
 go_ret
 exact⟨rfl,rfl⟩
theorem join_one (bk o c:Nat)(x sep:ByteArray)(w:World)(hc:w.cell? ⟨bk,o,none⟩=some (.string x)) :
 Calls Vp.prog 74 #[.slice (some ⟨bk,o,none⟩) 1 c,.string sep] w fun e w'=>e=.returned (.string x)/\w=w':=by
 go_enter Vp.func74,(Vp.Ta.trans Tryz.ntmps74)
 simp only[Vp.Da,Anj,Anq,Nat.reduceBEq,Aop,Amk,Ao5,Apg]
 go_wp2
 go_ret
 exact⟨rfl,rfl⟩
theorem A80 (bk o c:Nat)(xs:List ByteArray)(sep:ByteArray)(w:World)
 (hcells:∀(j:Nat) x,xs[j]?=some x->w.cell? ⟨bk,o+j,none⟩=some (.string x))
 (hbk:bk<w.heap.size) (h2:2<=xs.length) (hN:xs.length<=140737488355328) (hcap:xs.length<=c)
 (hlen:(Lib.join (xs.map (·.data.toList)) sep.data.toList).length<=140737488355328) :
 Calls Vp.prog 74 #[.slice (some ⟨bk,o,none⟩) xs.length c,.string sep] w fun e w'=>e=.returned (.string ⟨(Lib.join (xs.map (·.data.toList)) sep.data.toList).toArray⟩)/\Below w.heap.size w w':=by
 have HC:=Aly hcells;clear hcells
 obtain⟨x0,r,hxs⟩:∃x0 r,xs=x0 :: r:=by
  cases xs with
  | nil=>simp at h2
  | cons a t=>exact⟨a,t,rfl⟩
 have hjl:sep.size *(xs.length-1)+Lib.lens (xs.map (·.data.toList))<=140737488355328:=by
  have:=Lib.join_length x0.data.toList (r.map (·.data.toList)) sep.data.toList;rw[hxs]at hlen ⊢;simp only[Apw]at hlen ⊢;rw[this,Aov]at hlen;rw[Lib.size_eq,Ann,Aqe]
  exact hlen
 have hmul:sep.size *(xs.length-1)<=140737488355328:=by omega
 generalize hM:sep.size *(xs.length-1)=M at hjl hmul;have hcast:((xs.length:Int)-1)=((xs.length-1:Nat):Int):=by omega
 have hlt:sep.size<9223372036854775807 / (xs.length-1):=by
  have:sep.size+1<=9223372036854775807 / (xs.length-1):=by
   rw[Nat.le_div_iff_mul_le (by omega),Nat.add_mul,hM]
   omega
  omega
 have hdv:¬(9223372036854775807 / ((xs.length:Int)-1) <=(sep.size:Int)):=by
  have e:(9223372036854775807:Int) / ((xs.length-1:Nat):Int)=((9223372036854775807 / (xs.length-1):Nat):Int):=IntWalk.up_div (x:=9223372036854775807) rfl rfl;rw[hcast,e];generalize 9223372036854775807 / (xs.length-1)=q at hlt
  omega
 have hprod:wrap64 ((sep.size:Int) *((xs.length:Int)-1))=(M:Int):=by
  have e:(sep.size:Int) *((xs.length-1:Nat):Int)=((sep.size *(xs.length-1):Nat):Int):=IntWalk.up_mul rfl rfl;rw[hcast,e,hM]
  exact IntWalk.wrap64_in _ ⟨by omega,by omega⟩
 have hM0:sep.size=0->M=0:=fun h=>by rw[<-hM,h,Nat.zero_mul]
 clear hlt hcast;have hne0:((xs.length:Int) == 0)=false:=Ap0.2 (by omega)
 have hne1:((xs.length:Int) == 1)=false:=Ap0.2 (by omega)
 have Hxs:=Aly hxs;have Hlen:=Aly hlen;clear hxs hlen
 go_enter Vp.func74,(Vp.Ta.trans Tryz.ntmps74)
 simp only[Vp.Da,Anj,Anq,Nat.reduceBEq,Aop,Amk,Ao5,Apg]
 go_wp2_with fail
 all_goals (
  go_loop [5,41] (fun n i=>∃k:Nat,k<=xs.length/\i=.int .i64 k/\n=.int .i64 ((M+Lib.lens ((xs.map (·.data.toList)).take k):Nat):Int)) (fun _ i=>xs.length-(intOf i).toNat)
  case atStart=>exact⟨0,Amu _,rfl,by first |(simp[Lib.lens];done) |(have:=hM0 (by omega);simp[Lib.lens,this])⟩
  case round =>
   obtain⟨k,hk,rfl,rfl⟩:=hrel
   by_cases hkn:k<xs.length
   ·obtain⟨x,hx⟩:∃x,xs[k]?=some x:=⟨xs[k],Amw hkn⟩;have hc:=HC.out k x hx;have hstep:=Lib.lens_take_succ (xs.map (·.data.toList)) k x.data.toList (by simp[hx])
    have hbound:Lib.lens ((xs.map (·.data.toList)).take (k+1))<=Lib.lens (xs.map (·.data.toList)):=Lib.lens_take_le _ _;rw[<-Lib.size_eq]at hstep;generalize hA1:Lib.lens ((xs.map (·.data.toList)).take (k+1))=A1 at hstep hbound;generalize Lib.lens ((xs.map (·.data.toList)).take k)=A0 at hstep;have HA1:=Aly hA1;clear hA1
    go_wp2
    exact⟨⟨k+1,by omega,by go_num,by rw[HA1.out];refine congrArg _ ?_;omega⟩,by simp[intOf];omega⟩
   ·have hke:k=xs.length:=by omega
    subst hke;have hall:(xs.map (·.data.toList)).take xs.length=xs.map (·.data.toList):=Aom (by simp)
    rw[hall];generalize hT:Lib.lens (xs.map (·.data.toList))=T at hjl;have HT:=Aly hT;clear hT hall
    go_wp2_with fail
    have hMT:((M:Int) +(T:Int))=((M+T:Nat):Int):=by omega
    rw[hMT]
    refine(A3x w.heap.size w.heap.size (M+T) _ (Am0 _) (Aox w _) (by simp) (by omega)).mono ?_
    rintro e w1 ⟨rfl,h1,hb1⟩;have hb1':Below w.heap.size w w1:=((Amc w.heap.size w).alloc (Am0 _) _).trans hb1;have hx0:xs[0]?=some x0:=by rw[Hxs.out];rfl
    have hc0:w1.cell? ⟨bk,o,none⟩=some (.string x0):=by
     rw[hb1'.cell (p:=⟨bk,o,none⟩) hbk]
     exact HC.out 0 x0 hx0
    have H1:=Aly (Or.inr h1:Lib.IsBuilder 67 5 w.heap.size w.heap.size [] w1);have Hb1:=Aly hb1';have hBw1:w.heap.size<=w1.heap.size:=hb1'.size;clear h1 hb1 hb1' hMT
    have hwhole:Lib.join (xs.map (·.data.toList)) sep.data.toList=x0.data.toList++Lib.joinTail sep.data.toList (r.map (·.data.toList)):=by
     rw[Hxs.out,Apw,Lib.join_cons]
    have hCle:∀k,(x0.data.toList++Lib.joinTail sep.data.toList ((r.map (·.data.toList)).take k)).length<=140737488355328:=fun k=>by
     have h1:=Hlen.out;rw[hwhole,Amy]at h1;have h2:=Lib.joinTail_take_le sep.data.toList (r.map (·.data.toList)) k;rw[Amy]
     omega
    have HCle:=Aly hCle;have Hwhole:=Aly hwhole;clear hCle hwhole
    go_wp2_with fail
    refine(J0 w.heap.size w.heap.size [] x0 w1 H1.out (by have:=HCle.out 0;simp[Lib.joinTail]at this ⊢;omega) hBw1).mono ?_
    rintro e w2 ⟨rfl,h2',hb2⟩
    have hstart:([]:List Value)++Lib.strCells x0=Lib.byteCells (x0.data.toList++Lib.joinTail sep.data.toList ((r.map (·.data.toList)).take 0)):=by
     simp[Lib.joinTail,Lib.strCells_eq]
    rw[hstart]at h2';have H2:=Aly (Or.inr h2':Lib.IsBuilder 67 5 w.heap.size w.heap.size _ w2);have Hb2:=Aly (Hb1.out.trans hb2);clear h2' hb2 hstart;have hrl:r.length=xs.length-1:=by rw[Hxs.out];simp
    go_wp2_with fail
    go_loopw [65] (fun i wr=>∃k:Nat,k<=r.length/\i=.int .i64 k/\Hid (Lib.IsBuilder 67 5 w.heap.size w.heap.size (Lib.byteCells (x0.data.toList++Lib.joinTail sep.data.toList ((r.map (·.data.toList)).take k))) wr)/\Hid (Below w.heap.size w wr)) (fun i _=>r.length-(intOf i).toNat)
    case atStart=>exact⟨0,Amu _,rfl,H2,Hb2⟩
    case round =>
     obtain⟨k,hk',rfl,HB,HW⟩:=hrel
     by_cases hkr:k<r.length
     ·obtain⟨y,hy⟩:∃y,r[k]?=some y:=⟨r[k],Amw hkr⟩;have hxy:xs[k+1]?=some y:=by rw[Hxs.out];simpa using hy
      have hcy:wr.cell? ⟨bk,o+1+k,none⟩=some (.string y):=by
       rw[HW.out.cell (p:=⟨bk,o+1+k,none⟩) hbk,show o+1+k=o +(k+1) by omega]
       exact HC.out (k+1) y hxy
      have hBw:w.heap.size<=wr.heap.size:=HW.out.size
      have hnext:Lib.byteCells (x0.data.toList++Lib.joinTail sep.data.toList ((r.map (·.data.toList)).take k))++Lib.strCells sep++Lib.strCells y=Lib.byteCells (x0.data.toList++Lib.joinTail sep.data.toList ((r.map (·.data.toList)).take (k+1))):=by
       rw[Lib.joinTail_take_succ sep.data.toList (r.map (·.data.toList)) k y.data.toList (by simp[hy]),Lib.strCells_eq,Lib.strCells_eq,<-Lib.byteCells_append,<-Lib.byteCells_append,Ao4,Ao4,Ao4]
      have hl1:=HCle.out (k+1);rw[Lib.joinTail_take_succ sep.data.toList (r.map (·.data.toList)) k y.data.toList (by simp[hy])]at hl1
      simp only[Amy,<-Lib.size_eq]at hl1
      have hl0:(Lib.byteCells (x0.data.toList++Lib.joinTail sep.data.toList ((r.map (·.data.toList)).take k))).length=x0.size +(Lib.joinTail sep.data.toList ((r.map (·.data.toList)).take k)).length:=by
       rw[Lib.byteCells_length,Amy,<-Lib.size_eq]
      generalize (Lib.joinTail sep.data.toList ((r.map (·.data.toList)).take k)).length=J at hl0 hl1;have Hn:=Aly hnext;clear hnext hy hxy
      go_wp2_with fail
      refine(J0 w.heap.size w.heap.size _ sep wr HB.out (by rw[hl0];omega) hBw).mono ?_
      rintro e w3 ⟨rfl,h3,hb3⟩;have hBw3:w.heap.size<=w3.heap.size:=Am1 hBw hb3.size;have H3:=Aly h3;have Hb3:=Aly hb3;clear h3 hb3
      go_wp2_with fail
      refine(J0 w.heap.size w.heap.size _ y w3 (Or.inr H3.out) (by rw[Amy,hl0,Lib.strCells_length];omega) hBw3).mono ?_
      rintro e w4 ⟨rfl,h4,hb4⟩;rw[Hn.out]at h4;have H4:=Aly (Or.inr h4:Lib.IsBuilder 67 5 w.heap.size w.heap.size _ w4);have Hb4:=Aly ((HW.out.trans Hb3.out).trans hb4);clear h4 hb4
      go_wp2
      exact⟨⟨k+1,by omega,by go_num,H4,Hb4⟩,by simp[intOf];omega⟩
     ·have hke:k=r.length:=by omega
      subst hke;have hfull:(r.map (·.data.toList)).take r.length=r.map (·.data.toList):=Aom (by simp)
      have hB':=HB.out;rw[hfull,<-Hwhole.out]at hB';have hBw:w.heap.size<=wr.heap.size:=HW.out.size
      go_wp2_with fail
      refine(Vsh.Builder_String_any w.heap.size w.heap.size _ wr hB' hBw).mono ?_
      rintro e w5 ⟨rfl,hb5⟩;have Hb5:=Aly (HW.out.trans hb5);clear hb5 hB'
      go_wp2
      go_ret
      exact⟨rfl,Hb5.out⟩)
theorem Ae8 (bk o c:Nat)(xs:List ByteArray)(sep:ByteArray)(w:World)
 (hcells:∀(j:Nat) x,xs[j]?=some x->w.cell? ⟨bk,o+j,none⟩=some (.string x))
 (hbk:bk<w.heap.size) (hN:xs.length<=140737488355328) (hcap:xs.length<=c)
 (hlen:(Lib.join (xs.map (·.data.toList)) sep.data.toList).length<=140737488355328) :
 Calls Vp.prog 74 #[.slice (some ⟨bk,o,none⟩) xs.length c,.string sep] w fun e w'=>e=.returned (.string ⟨(Lib.join (xs.map (·.data.toList)) sep.data.toList).toArray⟩)/\Below w.heap.size w w':=by
 match xs,hcells,hN,hcap,hlen with
 | [],_,_,_,_=>exact(join_none _ c sep w).mono fun e w' ⟨he,hw⟩=>⟨he,hw▸Amc _ _⟩
 | [x],hcells,_,_,_ =>
   refine(join_one bk o c x sep w (hcells 0 x rfl)).mono fun e w' ⟨he,hw⟩=>⟨?_,hw▸Amc _ _⟩
   rw[he,Apw,List.map_nil,Lib.join_one,Lib.mk_data]
 | x :: y :: r,hcells,hN,hcap,hlen=>exact A80 bk o c (x :: y :: r) sep w hcells hbk (by simp) hN hcap hlen
end
section
open Go.RowKit Go.Lib
theorem A63:(Vp.prog.info? 9).map (fun i=>(i.zero,i.size,i.bytes))=some (some (.string ByteArray.empty),1,16):=by kernel_rfl
theorem Ya (s:ByteArray)(c:Int)(w:World) :
 Calls Vp.prog 140 #[.string s,.int .u8 c] w fun e w'=>e=.returned (.int .i64 (Lib.indexByte s.data.toList c.toNat.toUInt8))/\w'=w:=by
 go_enter Vp.func140,Tryz.ntmps140
 go_wp2
 rw[run_callFunc_extern Vp.func171 (by kernel_rfl) (by kernel_rfl) (by kernel_rfl) (e:=Extern.BytealgIndexByte.indexByte) (by kernel_rfl),Lib.run_indexByteString]
 simp only[Result.andThen];rw[Oper.upon_value]
 go_wp2
 go_ret
 exact⟨rfl,rfl⟩
theorem index_one (s:ByteArray)(c:UInt8)(w:World) :
 Calls Vp.prog 104 #[.string s,.string ⟨#[c]⟩] w fun e w'=>e=.returned (.int .i64 (Lib.indexByte s.data.toList c))/\w'=w:=by
 go_enter Vp.func104,(Vp.A8b.trans Tryz.ntmps104)
 simp only[Vp.Da,Anj,Anq,Nat.reduceBEq,Aop,Amk,Ao5,Apg]
 go_wp2_with (go_at_call 140;refine(Ya _ _ _).mono ?_;rintro e w' ⟨rfl,rfl⟩)
 ·have h:([c] == s.toList)=true:=by assumption
  go_ret
  refine⟨?_,rfl⟩
  have e:s.data.toList=[c]:=by rw[<-Lib.toList_data];exact(Aqw.1 h).symm
  rw[e];simp[Lib.indexByte]
 ·go_ret
  exact⟨rfl,rfl⟩
theorem A44 (s:ByteArray)(c:UInt8)(w:World) :
 Calls Vp.prog 185 #[.string s,.string ⟨#[c]⟩] w fun e w'=>e=.returned (.int .i64 (Lib.indexByte s.data.toList c))/\w'=w:=by
 go_enter Vp.func185,Tryz.ntmps185
 go_wp2_with (go_at_call 104;refine(index_one _ _ _).mono ?_;rintro e w' ⟨rfl,rfl⟩)
 go_ret
 exact⟨rfl,rfl⟩
theorem count_one (s:ByteArray)(c:UInt8)(w:World) :
 Calls Vp.prog 184 #[.string s,.string ⟨#[c]⟩] w fun e w'=>e=.returned (.int .i64 (Lib.countByte s.data.toList c))/\w'=w:=by
 go_enter Vp.func184,Tryz.ntmps184
 go_wp2
 rw[run_callFunc_extern Vp.func212 (by kernel_rfl) (by kernel_rfl) (by kernel_rfl) (e:=Extern.BytealgCount.count) (by kernel_rfl),Lib.run_countString]
 simp only[Result.andThen];rw[Oper.upon_value]
 go_wp2
 go_ret
 exact⟨rfl,rfl⟩
theorem Sr (s:ByteArray)(c:UInt8):Lib.indexB s ⟨#[c]⟩=Lib.indexByte s.data.toList c:=Lib.index_one _ _
theorem A3l (s:ByteArray)(c:UInt8):(Lib.countB s ⟨#[c]⟩:Int)=Lib.countByte s.data.toList c:=congrArg Int.ofNat (Lib.count_one c _)
theorem Adn (s:ByteArray)(c:UInt8)(w:World)(hs:s.size<4294967281) :
 Calls Vp.prog 68 #[.string s,.string ⟨#[c]⟩] w fun e w'=>e=.returned (.tuple #[.string ⟨(Lib.cut s.data.toList [c]).1.toArray⟩,.string ⟨(Lib.cut s.data.toList [c]).2.1.toArray⟩,.bool (Lib.cut s.data.toList [c]).2.2])/\∃n,w'=w.drewN n:=by
 obtain⟨sep,hsep⟩:∃sep:ByteArray,sep=⟨#[c]⟩:=⟨_,rfl⟩
 have hI:∀w,Calls Vp.prog 104 #[.string s,.string sep] w fun e w'=>e=.returned (.int .i64 (Lib.indexB s sep))/\w'=w:=fun w=>by
  rw[hsep,Sr]
  exact index_one s c w
 rw[<-hsep,show([c]:List UInt8)=sep.data.toList by rw[hsep]]
 clear hsep;have mixed:Vp.prog.follows .mixedOrders=true:=by kernel_rfl
 rcases Lib.indexB_cases s sep with hix |⟨i,hix,hroom⟩
 ·have HI:=Aly hI;rw[hix]at HI;clear hI;obtain⟨e1,e2,e3⟩:=Lib.cutB_miss s sep hix;rw[e1,e2,e3]
  go_enter Vp.func68,Tryz.ntmps68
  go_wp2_with (go_at_call 104;refine(HI.out _).mono ?_;rintro e w' ⟨rfl,rfl⟩)
  go_ret3
  exact⟨rfl,0,rfl⟩
 ·have HI:=Aly hI;rw[hix]at HI;clear hI;obtain⟨e1,e2,e3⟩:=Lib.cutB_hit s sep i hix;rw[e1,e2,e3];have c1:(0:Int)<=↑i:=by omega
  have c2:(↑i:Int)<=↑s.size:=by omega
  have c3:(0:Int)<=↑i+↑sep.size:=by omega
  have c4:(↑i+↑sep.size:Int)<=↑s.size:=by omega
  go_enter Vp.func68,Tryz.ntmps68
  go_wp2_with (go_at_call 104;refine(HI.out _).mono ?_;rintro e w' ⟨rfl,rfl⟩)
  go_region_o
  go_wp2
  go_ret3
  exact⟨rfl,1,rfl⟩
theorem A3n (s:ByteArray)(c:UInt8)(w:World)(hs:s.size<4294967281) :
 Calls Vp.prog 30 #[.string s,.string ⟨#[c]⟩] w fun e w'=>e=.returned (.tuple #[.string ⟨(Lib.cut s.data.toList [c]).1.toArray⟩,.string ⟨(Lib.cut s.data.toList [c]).2.1.toArray⟩,.bool (Lib.cut s.data.toList [c]).2.2])/\∃n,w'=w.drewN n:=by
 go_enter Vp.func30,Tryz.ntmps30
 go_wp2_with (go_at_call 68;refine(Adn _ _ _ hs).mono ?_;rintro e w' ⟨rfl,n,rfl⟩)
 go_ret3
 exact⟨rfl,n,rfl⟩
theorem A0p (s sep:ByteArray)(sv:Nat)(n:Int)(N:Nat)(w:World)(hs:s.size<4294967281)(h1:1<=sep.size)(hsv:sv<=sep.size)
 (hI:∀(x:ByteArray) (c:Array Value),x.size<=s.size->Calls Vp.prog 185 #[.string x,.string sep] (w.alloc (.cells c 9)) fun e w'=>e=.returned (.int .i64 (Lib.indexB x sep))/\w'=w.alloc (.cells c 9))
 (hC:Calls Vp.prog 184 #[.string s,.string sep] w fun e w'=>e=.returned (.int .i64 (Lib.countB s sep))/\w'=w)
 (hn0:n≠0) (hn63:n<=9223372036854775807) (hN:(N:Int)=min (if n<0 then(Lib.countB s sep:Int)+1 else n) ((s.size:Int)+1)) :
 Calls Vp.prog 153 #[.string s,.string sep,.int .i64 sv,.int .i64 n] w fun e w' =>
  e=.returned (.slice (some ⟨w.heap.size,0,none⟩) (Lib.splitB sep sv (N-1) s).length N)/\w'=w.alloc (.cells (Lib.cellsOf (Lib.splitB sep sv (N-1) s) N) 9):=by
 obtain⟨cn,hcn⟩:∃cn:Nat,Lib.countB s sep=cn:=⟨_,rfl⟩;rw[hcn]at hC hN;have hcl:cn<=s.size+1:=by rw[<-hcn,Lib.size_eq];exact Lib.count_le _ _
 clear hcn;have hne:(n == 0)=false:=Ap0.2 hn0
 have hse:sep.toList.isEmpty=false:=by
  rw[Lib.toList_data]
  cases h:sep.data.toList with
  | nil=>have:=Lib.size_eq sep;rw[h,Aou]at this;omega
  | cons _ _=>rfl
 obtain⟨eN,hdec⟩:(min (if n<0 then(cn:Int)+1 else n) ((s.size:Int)+1)=(N:Int))/\True:=⟨hN.symm,trivial⟩
 have eNn:n<0->min ((cn:Int)+1) ((s.size:Int)+1)=(N:Int):=fun h=>by rw[<-eN,Amo h]
 have eNp:¬n<0->min n ((s.size:Int)+1)=(N:Int):=fun h=>by rw[<-eN,Amd h]
 clear eN hN hdec
 by_cases hneg:n<0
 all_goals
  (first|have eN':=eNn hneg|have eN':=eNp hneg)
  clear eNn eNp;have hNs:(N:Int) <=(s.size:Int)+1:=by rw[<-eN'];exact Int.min_le_right _ _
  have hN1:(1:Int) <=(N:Int):=by rw[<-eN'];exact Int.le_min.2 ⟨by omega,by omega⟩
  have hmk:=run_make_row' (P:=Vp.prog) 123 9 (.string ByteArray.empty) 16 (Vp.Bl Tryz.underlying123) A63 rfl .i64 .i64 N (by omega) (by omega)
  go_enter Vp.func153,Tryz.ntmps153
  go_wp2_with (first |(go_at_call 184;refine hC.mono ?_;rintro e w' ⟨rfl,hw⟩;rw[hw]))
  clear hmk hC
  go_loopg [0,10] (N-1) (fun g s0 s10 wr=>∃(done:List ByteArray) (rest:ByteArray),s0=.string rest/\s10=.int .i64 done.length/\done.length<=N-1/\g=N-1-done.length/\rest.size<=s.size /\
   wr=w.alloc (.cells (Lib.cellsOf done N) 9)/\done++Lib.splitB sep sv (N-1-done.length) rest=Lib.splitB sep sv (N-1) s)
  case atStart=>exact⟨[],s,rfl,rfl,Amu _,rfl,Am0 _,by rw[Lib.cellsOf_nil],rfl⟩
  case round =>
   obtain⟨done,rest,rfl,rfl,hd,rfl,hrs,rfl,hsp⟩:=hrel;have hnext:(Lib.cellsOf done N)[done.length]?=some (.string ByteArray.empty):=Lib.cellsOf_next (by omega)
   have HS:Aside (done++Lib.splitB sep sv (N-1-done.length) rest=Lib.splitB sep sv (N-1) s):=hsp;clear hsp
   have fin:Lib.splitB sep sv (N-1-done.length) rest=[rest] ->(Lib.splitB sep sv (N-1) s).length=done.length+1 /\(Lib.cellsOf done N).setIfInBounds done.length (.string rest)=Lib.cellsOf (Lib.splitB sep sv (N-1) s) N:=fun h=>by
    have e:=HS.out;rw[h]at e;rw[<-e]
    exact⟨by simp,Lib.cellsOf_set (by omega) rest⟩
   by_cases hlt:done.length<N-1
   ·have hltz:((done.length:Nat):Int) <(N:Int)-1:=by omega
    rcases Lib.indexB_cases rest sep with hix |⟨i,hix,hroom⟩
    ·
     go_wp2_with (first |(go_at_call 185;refine(hI rest _ hrs).mono ?_;rintro e w' ⟨rfl,hw⟩;rw[hw,hix]))
     go_ret
     obtain⟨f1,f2⟩:=fin (Lib.splitB_miss sep sv _ rest hix);rw[f1,<-f2]
     exact⟨by first|rfl |(congr 2<;>omega),rfl⟩
    ·
     have c0:¬((i:Int)<0):=by omega
     have c1:(0:Int)<=↑i+↑sv:=by omega
     have c2:(↑i+↑sv:Int)<=↑rest.size:=by omega
     have c3:(0:Int)<=↑i+↑sep.size:=by omega
     have c4:(↑i+↑sep.size:Int)<=↑rest.size:=by omega
     go_wp2_with (first |(go_at_call 185;refine(hI rest _ hrs).mono ?_;rintro e w' ⟨rfl,hw⟩;rw[hw,hix]))
     go_roundg (N-1-(done.length+1))
     case measure=>omega
     case rel =>
      refine⟨done++[rest.extract 0 (i+sv)],rest.extract (i+sep.size) rest.size,rfl,by simp,by simp;omega,by simp,by rw[ByteArray.size_extract];omega,by rw[<-Lib.cellsOf_set (by omega)],?_⟩
      rw[<-HS.out,show N-1-done.length=(N-1-(done.length+1))+1 by omega,Lib.splitB_hit sep sv _ rest i hix]
      simp
   ·
    have hltz:¬(((done.length:Nat):Int) <(N:Int)-1):=by omega
    go_wp2
    go_ret
    obtain⟨f1,f2⟩:=fin (by rw[show N-1-done.length=0 by omega];rfl)
    rw[f1,<-f2]
    exact⟨by first|rfl |(congr 2<;>omega),rfl⟩
theorem Ac8 (s:ByteArray)(c:UInt8)(w:World)(hs:s.size<4294967281) :
 Calls Vp.prog 119 #[.string s,.string ⟨#[c]⟩] w fun e w' =>
  e=.returned (.slice (some ⟨w.heap.size,0,none⟩) (Lib.countB s ⟨#[c]⟩+1) (Lib.countB s ⟨#[c]⟩+1))/\w'=w.alloc (.cells ((Lib.splitB ⟨#[c]⟩ 0 (Lib.countB s ⟨#[c]⟩) s).map Value.string).toArray 9):=by
 have h1:1 <=(⟨#[c]⟩:ByteArray).size:=Am0 1
 have hI:∀(x:ByteArray) (C:Array Value),x.size<=s.size->Calls Vp.prog 185 #[.string x,.string ⟨#[c]⟩] (w.alloc (.cells C 9)) fun e w'=>e=.returned (.int .i64 (Lib.indexB x ⟨#[c]⟩))/\w'=w.alloc (.cells C 9):=fun x C _=>by
  rw[Sr]
  exact A44 x c _
 have hC:Calls Vp.prog 184 #[.string s,.string ⟨#[c]⟩] w fun e w'=>e=.returned (.int .i64 (Lib.countB s ⟨#[c]⟩))/\w'=w:=by
  rw[A3l]
  exact count_one s c w
 generalize hsep:(⟨#[c]⟩:ByteArray)=sep at *;have hle:=Lib.countB_le sep h1 s.size s (Am0 _);have hlen:=Lib.splitB_all sep h1 0 _ s rfl;have c:=A0p s sep 0 (-1) (Lib.countB s sep+1) w hs h1 (Amu _) hI hC (by decide) (by decide) (by rw[Amo (by decide)];omega)
 rw[Aqe,hlen]at c;have e2:Lib.cellsOf (Lib.splitB sep 0 (Lib.countB s sep) s) (Lib.countB s sep+1)=((Lib.splitB sep 0 (Lib.countB s sep) s).map Value.string).toArray:=by rw[<-hlen];exact Lib.cellsOf_full _
 rw[e2]at c;clear hI hC
 go_enter Vp.func119,Tryz.ntmps119
 go_wp2_with (go_at_call 153;refine c.mono ?_;rintro e w' ⟨rfl,hw⟩;rw[hw])
 go_ret
 exact⟨rfl,rfl⟩
end
section
open Go.RowKit Go.Sort Go.Lib
theorem Y2 (n:Int)(h0:-9223372036854775808<=n)(h1:n<=9223372036854775807)(w:World)(htab:Lib.TabIs Vp.prog w "internal/strconv.uint64pow10" .u64 Lib.pow10Tab) :
 Calls Vp.prog 155 #[.int .i64 n,.int .i64 10] w fun e w'=>e=.returned (.string ⟨(Lib.itoa n).toArray⟩)/\∃k os,w'=grow (w.drewN k) os:=by
 by_cases hs:0<=n/\n<100
 ·
  obtain⟨i,rfl⟩:∃i:Nat,n=i:=⟨n.toNat,by omega⟩
  have hi:i<100:=by omega
  go_enter Vp.func155,Tryz.ntmps155
  go_wp2_with (go_at_call 187;refine(Vsh.internal_strconv_small i hi _).mono ?_;rintro e w' ⟨rfl,rfl⟩)
  go_ret
  refine⟨?_,0,#[],by simp[World.drewN_zero]⟩
  rw[Lib.itoa_nonneg]
  rfl
 ·by_cases hneg:n<0
  ·obtain⟨u,rfl⟩:∃u:Nat,n=-(u:Int):=⟨n.natAbs,by omega⟩
   have hu1:1<=u:=by omega
   have hu64:u<18446744073709551616:=by omega
   have hnd20:Lib.nDigits u<=20:=by have:=Lib.numDigits_eq u hu1 hu64;split at this<;>omega
   have hwr:IntKind.u64.wrap (-IntKind.u64.wrap (-(u:Int)))=(u:Int):=by rw[IntKind.wrap_u64,IntKind.wrap_u64];omega
   have hb3:Lib.nDigits u<=23:=by omega
   have hal:Vp.prog.arrayLen 232=24:=by simp[Program.arrayLen,(Vp.Bl Tryz.underlying232)]
   have hsl1:∀W,(Instr.sliceAt 232 (.pointer (some ⟨w.heap.size,0,none⟩)) (some (.int .i64 1)) (some (.int .i64 (1 +(Lib.nDigits u:Int)))) none).run Vp.prog W=.ok (.slice (some ⟨w.heap.size,1,none⟩) (Lib.nDigits u) 23) W:=fun W=>by
    rw[run_sliceAt_array_lh W 232 ⟨w.heap.size,0,none⟩ (by simp[Program.arrayLen,Program.elem,(Vp.Bl Tryz.underlying232)]) .i64 .i64 1 (1 +(Lib.nDigits u:Int)) (by omega) (by omega) (by rw[hal];omega)]
    go_simp
    omega
   have hH0:=Lib.holds_zero w 232 (Lib.nDigits u) (by omega)
   have hfmt:=Vsh.internal_strconv_formatBase10 w.heap.size 1 23 u (Array.replicate (Lib.nDigits u) 0) (w.alloc (.cells Lib.zeros24 232)) hH0 (by rw[Aoc];exact Lib.lt_pow_nDigits u) hu64 (by rw[Aoc];omega)
   rw[Aoc]at hfmt;have HH0:=Aly hH0;clear hH0 hal
   go_enter Vp.func155,Tryz.ntmps155
   go_wp2_with (first
    |(go_at_call 188;refine(Vsh.internal_strconv_numDigits u hu1 hu64 _ (Lib.tabIs_alloc htab _)).mono ?_;rintro e w' ⟨rfl,rfl⟩))
   go_at_call 189
   refine hfmt.mono ?_
   rintro e w' ⟨rfl,k,v',dk,rfl,hF⟩
   have hc0:((putRow (fun(b:UInt8)=>Value.int .u8 (b.toNat:Int)) (w.alloc (.cells Lib.zeros24 232)) w.heap.size 1 dk).drewN k).cell? ⟨w.heap.size,0,none⟩=some (.int .u8 0):=by
    rw[World.cell?_drewN,cell?_putRow_other _ _ _ _ _ _ (Or.inr (Or.inl (Nat.zero_lt_one))),World.cell?_alloc_new]
    exact Lib.zeros24_at 0 (by omega)
   have hf0:((putRow (fun(b:UInt8)=>Value.int .u8 (b.toNat:Int)) (w.alloc (.cells Lib.zeros24 232)) w.heap.size 1 dk).drewN k).frozen? ⟨w.heap.size,0,none⟩=false:=by
    rw[World.frozen?_drewN,frozen?_putRow]
    exact World.frozen?_alloc_new _ _ _ _
   have hal:Vp.prog.arrayLen 232=24:=by simp[Program.arrayLen,(Vp.Bl Tryz.underlying232)]
   have hsl2:∀W,(Instr.sliceAt 232 (.pointer (some ⟨w.heap.size,0,none⟩)) none (some (.int .i64 (1 +(Lib.nDigits u:Int)))) none).run Vp.prog W=.ok (.slice (some ⟨w.heap.size,0,none⟩) (1+Lib.nDigits u) 24) W:=fun W=>by
    rw[run_sliceAt_array_h W 232 ⟨w.heap.size,0,none⟩ (by simp[Program.arrayLen,Program.elem,(Vp.Bl Tryz.underlying232)]) .i64 (1 +(Lib.nDigits u:Int)) (by omega) (by rw[hal];omega)]
    go_simp
    omega
   clear hal
   have hcv:(convert 22 9 (.slice (some ⟨w.heap.size,0,none⟩) (1+Lib.nDigits u) 24)).run Vp.prog (((putRow (fun(b:UInt8)=>Value.int .u8 (b.toNat:Int)) (w.alloc (.cells Lib.zeros24 232)) w.heap.size 1 dk).drewN k).setCell ⟨w.heap.size,0,none⟩ (.int .u8 45))=.ok (.string ⟨(45 :: Lib.decDigits u).toArray⟩) (((putRow (fun(b:UInt8)=>Value.int .u8 (b.toNat:Int)) (w.alloc (.cells Lib.zeros24 232)) w.heap.size 1 dk).drewN k).setCell ⟨w.heap.size,0,none⟩ (.int .u8 45)):=by
    have h:=Aqz (P:=Vp.prog) (((putRow (fun(b:UInt8)=>Value.int .u8 (b.toNat:Int)) (w.alloc (.cells Lib.zeros24 232)) w.heap.size 1 dk).drewN k).setCell ⟨w.heap.size,0,none⟩ (.int .u8 45)) 22 9 5 ⟨w.heap.size,0,none⟩ 24 (45 :: Lib.decDigits u) (Vp.Bl Tryz.underlying22) (Vp.Bl Tryz.underlying5) (Vp.Bl Tryz.underlying9) (fun j hj=>by
     rw[Lib.add_plain]
     cases j with
     | zero=>exact World.cell?_setCell_same _ _ _ hc0
     | succ i =>
       have hi:i <(Lib.decDigits u).length:=by simpa using hj
       rw[World.cell?_setCell_other _ _ _ _ (by simp),List.getElem_cons_succ,Lib.row_is_numeral hF i hi,World.cell?_drewN,show 0 +(i+1)=1+i by omega]
       exact cell?_putRow (fun(b:UInt8)=>Value.int .u8 (b.toNat:Int)) _ w.heap.size 1 _ dk HH0.out (by rw[hF.size,Aoc]) i (by rw[hF.size];rw[Lib.decDigits_length]at hi;exact hi))
    rw[Ann,Lib.decDigits_length,Nat.add_comm]at h
    exact h
   go_wp2
   go_ret
   obtain⟨os,eo⟩:=Lib.fin_neg w (.cells Lib.zeros24 232) dk k (.int .u8 45)
   refine⟨?_,k,os,eo⟩
   rw[Lib.itoa_neg u hu1]
   rfl
  ·obtain⟨u,rfl⟩:∃u:Nat,n=u:=⟨n.toNat,by omega⟩
   have hu1:1<=u:=by omega
   have hu64:u<18446744073709551616:=by omega
   have hnd20:Lib.nDigits u<=20:=by have:=Lib.numDigits_eq u hu1 hu64;split at this<;>omega
   have hb3:Lib.nDigits u<=23:=by omega
   have hal:Vp.prog.arrayLen 232=24:=by simp[Program.arrayLen,(Vp.Bl Tryz.underlying232)]
   have hsl1:∀W,(Instr.sliceAt 232 (.pointer (some ⟨w.heap.size,0,none⟩)) (some (.int .i64 1)) (some (.int .i64 (1 +(Lib.nDigits u:Int)))) none).run Vp.prog W=.ok (.slice (some ⟨w.heap.size,1,none⟩) (Lib.nDigits u) 23) W:=fun W=>by
    rw[run_sliceAt_array_lh W 232 ⟨w.heap.size,0,none⟩ (by simp[Program.arrayLen,Program.elem,(Vp.Bl Tryz.underlying232)]) .i64 .i64 1 (1 +(Lib.nDigits u:Int)) (by omega) (by omega) (by rw[hal];omega)]
    go_simp
    omega
   have hH0:=Lib.holds_zero w 232 (Lib.nDigits u) (by omega)
   have hfmt:=Vsh.internal_strconv_formatBase10 w.heap.size 1 23 u (Array.replicate (Lib.nDigits u) 0) (w.alloc (.cells Lib.zeros24 232)) hH0 (by rw[Aoc];exact Lib.lt_pow_nDigits u) hu64 (by rw[Aoc];omega)
   rw[Aoc]at hfmt;have HH0:=Aly hH0;clear hH0 hal
   go_enter Vp.func155,Tryz.ntmps155
   go_wp2_with (first
    |(go_at_call 188;refine(Vsh.internal_strconv_numDigits u hu1 hu64 _ (Lib.tabIs_alloc htab _)).mono ?_;rintro e w' ⟨rfl,rfl⟩))
   go_at_call 189
   refine hfmt.mono ?_
   rintro e w' ⟨rfl,k,v',dk,rfl,hF⟩
   have hcv:(convert 22 9 (.slice (some ⟨w.heap.size,1,none⟩) (Lib.nDigits u) 23)).run Vp.prog ((putRow (fun(b:UInt8)=>Value.int .u8 (b.toNat:Int)) (w.alloc (.cells Lib.zeros24 232)) w.heap.size 1 dk).drewN k)=.ok (.string ⟨(Lib.decDigits u).toArray⟩) ((putRow (fun(b:UInt8)=>Value.int .u8 (b.toNat:Int)) (w.alloc (.cells Lib.zeros24 232)) w.heap.size 1 dk).drewN k):=by
    have h:=Aqz (P:=Vp.prog) ((putRow (fun(b:UInt8)=>Value.int .u8 (b.toNat:Int)) (w.alloc (.cells Lib.zeros24 232)) w.heap.size 1 dk).drewN k) 22 9 5 ⟨w.heap.size,1,none⟩ 23 (Lib.decDigits u) (Vp.Bl Tryz.underlying22) (Vp.Bl Tryz.underlying5) (Vp.Bl Tryz.underlying9) (fun j hj=>by
     rw[Lib.row_is_numeral hF j hj,Lib.add_plain,World.cell?_drewN]
     exact cell?_putRow (fun(b:UInt8)=>Value.int .u8 (b.toNat:Int)) _ w.heap.size 1 _ dk HH0.out (by rw[hF.size,Aoc]) j (by rw[hF.size];rw[Lib.decDigits_length]at hj;exact hj))
    rw[Lib.decDigits_length]at h
    exact h
   go_wp2
   go_ret
   obtain⟨os,eo⟩:=Lib.fin_pos w (.cells Lib.zeros24 232) dk k
   refine⟨?_,k,os,eo⟩
   rw[Lib.itoa_nonneg]
   rfl
theorem Ab8 (n:Int)(h0:-9223372036854775808<=n)(h1:n<=9223372036854775807)(w:World)(htab:Lib.TabIs Vp.prog w "internal/strconv.uint64pow10" .u64 Lib.pow10Tab) :
 Calls Vp.prog 122 #[.int .i64 n] w fun e w'=>e=.returned (.string ⟨(Lib.itoa n).toArray⟩)/\∃k os,w'=grow (w.drewN k) os:=by
 have H:=Aly (Y2 n h0 h1 w htab)
 go_enter Vp.func122,Tryz.ntmps122
 go_wp2_with (go_at_call 155;refine H.out.mono ?_;rintro e w' ⟨rfl,k,os,rfl⟩)
 go_ret
 exact⟨rfl,k,os,rfl⟩
theorem Ae7 (n:Int)(h0:-9223372036854775808<=n)(h1:n<=9223372036854775807)(w:World)(htab:Lib.TabIs Vp.prog w "internal/strconv.uint64pow10" .u64 Lib.pow10Tab) :
 Calls Vp.prog 73 #[.int .i64 n] w fun e w'=>e=.returned (.string ⟨(Lib.itoa n).toArray⟩)/\Below w.heap.size w w':=by
 have H:=Aly (Ab8 n h0 h1 w htab)
 go_enter Vp.func73,Tryz.ntmps73
 go_wp2_with (go_at_call 122;refine H.out.mono ?_;rintro e w' ⟨rfl,k,os,rfl⟩)
 go_ret
 exact⟨rfl,Lib.below_grow _ w (Am0 _) k os⟩
end
section
open Go.RowKit
theorem Cv {P:Program}{B:Nat}{w w':World}{name:String}{k:IntKind}{zs:List Int}(hb:Below B w w')(hB:B=w.heap.size)(h:Lib.TabIs P w name k zs):Lib.TabIs P w' name k zs:=by
 unfold Lib.TabIs World.var? at *
 cases hg:P.globalNamed name with
 | none=>simp[hg]at h
 | some g =>
   simp only[hg,Ao9]at h ⊢
   have hlt:g<w.heap.size:=by
    rcases Aqs g w.heap.size with h'|h'
    ·exact h'
    ·rw[Ao0 h']at h;simp at h
   rw[hb.block g (by omega)]
   exact h
theorem G6 {P:Program}(w:World){ops:Array Oper}{rest:List Oper}{o:Oper}{a:Act}{Q:Exit->Act->World->Prop}(hgd:o.guard=none)(s x:Operand)(t:TypeId)
 (ho:o.op=.call { callee:=.builtin .append,args:=#[s,x],argTypes:=#[t,t] })
 (base:Nat) (e:TypeId) (i:TypeInfo) (size:Nat) (ht:P.underlying t=some (.slice e)) (hi:P.info? e=some i) (hsize:i.size=size)
 (g n cap:Nat) (xs:List Value) (hs:a.eval s=.slice (some ⟨g,0,none⟩) n cap) (hown:w.ownsRow base e size (.slice (some ⟨g,0,none⟩) n cap) n xs)
 (ad:Addr) (m c:Nat) (news:List Value) (hx:a.eval x=.slice (some ad) m c) (hl:news.length=m*size) (hnews:∀j u,news[j]?=some u->w.cell? (ad.add j)=some u) (h1:∀u∈news,u.oneCell'=true)
 (hroom:n+m<=cap)
 (h:∀w',w'.ownsRow base e size (.slice (some ⟨g,0,none⟩) (n+m) cap) (n+m) (xs++news)->w.grownBy w' (some g)->wpList P ops Q rest (a.put o.dst (.slice (some ⟨g,0,none⟩) (n+m) cap)) w'):wpList P ops Q (o :: rest) a w :=
 wpList_plain hgd fun _ hK=>wp_append_own_spare w s x t ho base e i size ht hi hsize g n cap xs hs hown ad m c news hx hl hnews h1 hroom fun w' h2 h3=>hK _ _ (h w' h2 h3)
theorem Ky {w:World}{B g ln cap:Nat}{e:TypeId}{xs:List Value}(h:w.ownsRow B e 1 (.slice (some ⟨g,0,none⟩) ln cap) ln xs)(j:Nat)(u:Value)(hj:xs[j]?=some u):w.cell? ⟨g,j,none⟩=some u:=by
 have hlt:=(Aor.1 hj).1;have hl:=h.1;rw[h.cellAt j (by omega)]
 exact hj
theorem Kj (w:World):Calls Vp.prog 120 #[.bool true] w fun e w'=>e=.returned (.tuple #[])/\w'=w:=by
 go_enter Vp.func120,(Vp.A8c.trans Tryz.ntmps120)
 simp only[Vp.Da,Anj,Anq,Nat.reduceBEq,Aop,Amk,Ao5,Apg]
 go_wp2
 go_end0
 exact⟨rfl,rfl⟩
def Fj (n:Int):ByteArray:=⟨(Lib.itoa n).toArray⟩
theorem Mc (n:Int):(Fj n).data.toList=Lib.itoa n:=by simp[Fj]
theorem A8v (b o c:Nat)(ns:List Int)(w:World)(htab:Lib.TabIs Vp.prog w "internal/strconv.uint64pow10" .u64 Lib.pow10Tab)
 (hcells:∀(j:Nat) x,ns[j]?=some x->w.cell? ⟨b,o+j,none⟩=some (.int .i64 x)) (hb:b<w.heap.size) (hn:ns.length<=8) (hc:ns.length<=c)
 (hbd:∀x∈ns,-9223372036854775808<=x/\x<=9223372036854775807) (hlen:(Lib.join (ns.map Lib.itoa) [32]).length<=140737488355328) :
 Calls Vp.prog 34 #[.slice (some ⟨b,o,none⟩) ns.length c] w fun e w'=>e=.returned (.string ⟨(Lib.join (ns.map Lib.itoa) [32]).toArray⟩)/\Below w.heap.size w w':=by
 obtain⟨iS,hiS,hzS0,hzS1,hzS2⟩:=Ap2 A63;obtain⟨N,hN⟩:∃N,ns.length=N:=⟨_,rfl⟩;obtain⟨cS,hcS,hS⟩:=Dq (P:=Vp.prog) 123 9 iS _ (Vp.Bl Tryz.underlying123) hiS hzS0 N (by omega) (by omega)
 have H0:Hid ((w.alloc (.cells cS 9)).ownsRow w.heap.size 9 1 (.slice (some ⟨w.heap.size,0,none⟩) 0 N) 0 (([]:List Int).map fun n=>Value.string (Fj n))) :=
  ⟨by simp,.inr ⟨w.heap.size,N,cS,rfl,Am0 _,Aox w _,by simp,by unfold maxLen;omega,by rw[hcS,hzS1],by simp⟩⟩
 have HC:=Aly hcells;have HT:=Aly htab;have HB:=Aly hbd;have HL:=Aly hlen;have HN:=Aly hN;clear hcells htab hbd hlen;rw[hN]at hn hc ⊢;clear hN
 go_enter Vp.func34,Tryz.ntmps34
 go_wp2
 clear hS
 go_loopw [3,11] (fun v i wr=>∃k:Nat,k<=N/\i=.int .i64 k/\v=.slice (some ⟨w.heap.size,0,none⟩) k N/\Hid (wr.ownsRow w.heap.size 9 1 v k ((ns.take k).map fun n=>Value.string (Fj n)))/\Hid (Below w.heap.size w wr)) (fun _ i _=>N-(intOf i).toNat)
 case atStart=>exact⟨0,Amu _,rfl,rfl,H0.out,Aly ((Amc _ _).alloc (Am0 _) _)⟩
 case round =>
  obtain⟨k,hk,rfl,rfl,HO,HW⟩:=hrel
  by_cases hkn:k<N
  ·obtain⟨x,hx⟩:∃x,ns[k]?=some x:=⟨ns[k]'(by rw[HN.out];exact hkn),Amw _⟩
   have hxc:wr.cell? ⟨b,o+k,none⟩=some (.int .i64 x):=by
    rw[HW.out.cell (p:=⟨b,o+k,none⟩) hb]
    exact HC.out k x hx
   have hxm:=HB.out x (Aob hx);have HI:=Aly (Ae7 x hxm.1 hxm.2 wr (Cv HW.out rfl HT.out));have HX:=Aly hx;clear hx hxm
   go_wp2_with fail
   refine HI.out.mono ?_
   rintro e w1 ⟨rfl,hb1⟩;have HO1:=Aly (C4 HO.out hb1);have HW1:=Aly (HW.out.trans (hb1.mono HW.out.size));have hsz:=HW.out.size;have hsz1:=hb1.size;clear HI hb1
   go_wp2_with (at_builtin;refine G6 _ rfl _ _ _ rfl w.heap.size 9 iS 1 (Vp.Bl Tryz.underlying123) hiS hzS1 w.heap.size k N _ rfl (HO1.out.alloc _) ⟨w1.heap.size,0,none⟩ 1 1 [.string (Fj x)] rfl rfl (cell_one_new _ _ _) (fun u hu=>by simp at hu;subst hu;rfl) (by omega) ?_;intro w3 hown hgrow)
   have HO3:Hid (w3.ownsRow w.heap.size 9 1 (.slice (some ⟨w.heap.size,0,none⟩) (k+1) N) (k+1) ((ns.take (k+1)).map fun n=>Value.string (Fj n))):=by
    show World.ownsRow _ _ _ _ _ _ _
    rw[List.take_add_one,HX.out]
    simpa using hown
   have HW3:Hid (Below w.heap.size w w3):=(HW1.out.alloc HW1.out.size _).grown hgrow (by simp;omega) (fun q hq=>by simp at hq;omega)
   clear hown hgrow
   go_wp2
   exact⟨⟨k+1,by omega,by go_num,rfl,HO3,HW3⟩,by simp[intOf];omega⟩
  ·have hke:k=N:=by omega
   subst hke;have hO:=HO.out;rw[Aom (by rw[HN.out];exact Am0 _)]at hO
   have hJ:=Ae8 w.heap.size 0 k (ns.map Fj) ⟨#[32]⟩ wr (fun j y hy=>by
    rw[Aqr]
    exact Ky hO j _ (by simpa using hy)) (by
    rcases hO.2 with⟨h,_⟩ |⟨g,cap,cur,hv,hg,hh,_⟩
    ·cases h
    ·injection hv with hv _ _
     injection hv with hv
     injection hv with hv _ _
     subst hv
     exact(Alx.1 hh).1) (by rw[Aov,HN.out];omega) (by rw[Aov,HN.out];exact Am0 _) (by rw[List.map_map,show((fun x:ByteArray=>x.data.toList) ∘ Fj)=Lib.itoa from funext Mc];exact HL.out)
   rw[Aov,HN.out,List.map_map,show((fun x:ByteArray=>x.data.toList) ∘ Fj)=Lib.itoa from funext Mc]at hJ
   have HJ:=Aly hJ;clear hJ hO;have hsz:=HW.out.size
   go_wp2_with fail
   refine HJ.out.mono ?_
   rintro e w1 ⟨rfl,hb1⟩;have HF:=Aly (HW.out.trans (hb1.mono hsz));clear hb1 HJ
   go_wp2
   go_ret
   exact⟨rfl,HF.out⟩
end
end Go.Proofs.YtjaehldnlamgkaaGreatDoor
