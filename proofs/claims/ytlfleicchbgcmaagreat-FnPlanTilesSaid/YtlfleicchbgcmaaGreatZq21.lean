import Derived.Test.YtlfleicchbgcmaaGreatZq20
import Derived.Sort.LotA
import Derived.Shelf.SlSortCmp.WholeK
import Derived.Sort.Walk0
import Derived.BigRegion
import Derived.Test.YtlfleicchbgcmaaGreatZq0
import Derived.Test.YtlfleicchbgcmaaGreatZqK
set_option linter.all false
set_option maxHeartbeats 16000000
set_option maxRecDepth 100000
namespace Go.Proofs.YtlfleicchbgcmaaGreat
section
open Go.RowKit Flo
def dig (c:UInt8):Prop:=48<=c.toNat/\c.toNat<=51
def Gl (cx cy d:Nat)(s:Int):Prop:=∀k,k<4->Uu (Bi cx cy d s k).1 (Bi cx cy d s k).2 ((d:Int)+1) s
def E3 (s:Int):List UInt8->Nat->Nat->Nat->Nat->Nat->Nat->Prop
 | [],cx,cy,d,x,y,dd=>x=cx/\y=cy/\dd=d
 | c :: cs,cx,cy,d,x,y,dd=>dig c/\Gl cx cy d s/\E3 s cs (Bi cx cy d s (c.toNat-48)).1 (Bi cx cy d s (c.toNat-48)).2 (d+1) x y dd
theorem E3.fn {s:Int}:∀{bs:List UInt8} {cx cy d x y dd x' y' dd':Nat},E3 s bs cx cy d x y dd->E3 s bs cx cy d x' y' dd'->x=x'/\y=y'/\dd=dd'
 | [],_,_,_,_,_,_,_,_,_,⟨h1,h2,h3⟩,⟨g1,g2,g3⟩=>⟨h1.trans g1.symm,h2.trans g2.symm,h3.trans g3.symm⟩
 | _ :: _,_,_,_,_,_,_,_,_,_,⟨_,_,h⟩,⟨_,_,g⟩=>E3.fn h g
theorem E3.Ag7 {s:Int}:∀{bs:List UInt8} {cx cy d x y dd:Nat},E3 s bs cx cy d x y dd->∀c∈bs,dig c
 | [],_,_,_,_,_,_,_,c,h=>by cases h
 | a :: bs,_,_,_,_,_,_,⟨h1,_,h⟩,c,hc=>by
   rcases Ajf.1 hc with rfl|hc
   ·exact h1
   ·exact h.Ag7 c hc
theorem E3.len {s:Int}:∀{bs:List UInt8} {cx cy d x y dd:Nat},E3 s bs cx cy d x y dd->dd=d+bs.length
 | [],_,_,_,_,_,_,⟨_,_,h⟩=>h
 | a :: bs,_,_,_,_,_,_,⟨_,_,h⟩=>by rw[h.len,Al8];omega
def A2i (f:Nat):Prop:=∀(A4:Int) (t:Ai) (B:Nat) (W:World),C9 B t W->E4 A4 t->∃d:Nat,t.deep=d/\Calls Vp.prog f #[.agg t.cells.toArray,.int .i64 A4] W (Jf W t.cx t.cy d t.size A4)
theorem Wq {f:Nat} (h:∀(cx cy d:Nat) (s A4:Int),cx<4294967296->cy<4294967296->Az cx cy d s=true->∀(a a':Option Addr) (n c c':Nat) (ys:List Int),ys.length<=1048576->C8 s n ys=true->∀w,Sl w a' (ys.map Av) ->
 Calls Vp.prog f #[.agg #[.complex .f32 cx cy,.int .i64 d,.int .i64 s,.slice a n c,.slice a' ys.length c'],.int .i64 A4] w (Jf w cx cy d s A4)):A2i f:=by
 intro A4 t B W hO hG;obtain⟨d,s,hd,hs,hn,s1,s8,d10⟩:=hG.n;obtain⟨l1,l2⟩:=hO.lens;have hss:s*s<=64:=Ajm s8 s8
 refine⟨d,hd,?_⟩
 have hw:C8 t.size t.n t.ys=true:=Ts (by rw[hn,hs];simp) l2 fun j hj=>by
  have:=hO.made.hy t.ys[j] (List.getElem_mem hj);unfold Dl Gf;simp only[Aia,Aiv]
  exact this
 have:=h t.cx t.cy d t.size A4 hO.bx hO.by1 (by rw[<-hd];exact hO.pl) (some ⟨t.gs,0,none⟩) (some ⟨t.gm,0,none⟩) t.n t.cs t.cm t.ys (by omega) hw W (Dv hO.made.M)
 rw[l2]at this;rw[show(.agg t.cells.toArray:Value)=.agg #[.complex .f32 t.cx t.cy,.int .i64 d,.int .i64 t.size,.slice (some ⟨t.gs,0,none⟩) t.n t.cs,.slice (some ⟨t.gm,0,none⟩) t.n t.cm]from by unfold Ai.cells;rw[hd]]
 exact this
theorem A3w:A2i 21:=Wq fun cx cy d s A4 hx hy hp a a' n c c' ys hl hw w hs=>Uj cx cy d s A4 hx hy hp a a' n c c' ys hl hw w hs
theorem S5:A2i 26:=Wq fun cx cy d s A4 hx hy hp a a' n c c' ys hl hw w hs=>Ua cx cy d s A4 hx hy hp a a' n c c' ys hl hw w hs
theorem C3.cells {B:Nat}{L:List Ai}{g cap:Nat}{W:World}(h:C3 B L (.slice (some ⟨g,0,none⟩) L.length cap) W){k:Nat}{t:Ai}(ht:L[k]?=some t) :
 W.cell? ⟨g,k*5,none⟩=some (.complex .f32 t.cx t.cy)/\W.cell? ⟨g,k*5+1,none⟩=some (.int .i64 t.deep)/\W.cell? ⟨g,k*5+2,none⟩=some (.int .i64 t.size)/\W.cell? ⟨g,k*5+3,none⟩=some (.slice (some ⟨t.gs,0,none⟩) t.n t.cs)/\W.cell? ⟨g,k*5+4,none⟩=some (.slice (some ⟨t.gm,0,none⟩) t.n t.cm):=by
 have hk:k<L.length:=(Aii.1 ht).1
 have at_:∀j v,j<5->t.cells[j]?=some v->W.cell? ⟨g,k*5+j,none⟩=some v:=fun j v hj hv=>by
  rw[h.row.cellAt (k*5+j) (by omega)]
  exact Oj L k j t v ht hv
 exact⟨at_ 0 _ (by omega) rfl,at_ 1 _ (by omega) rfl,at_ 2 _ (by omega) rfl,at_ 3 _ (by omega) rfl,at_ 4 _ (by omega) rfl⟩
def Od (cx cy:Nat)(deep size:Int)(bs:List UInt8):Prop:=Uu cx cy deep size/\∃d0 x y dd:Nat,deep=d0/\E3 size bs cx cy d0 x y dd
def Gu (w:World)(cx cy:Nat)(deep size A4:Int)(bs:List UInt8)(e:Ending)(w':World):Prop :=
 Below w.heap.size w w' /\((e=.returned P8/\¬Od cx cy deep size bs) \/
  (∃(t:Ai) (d0 dd:Nat),e=.returned (.tuple #[.agg t.cells.toArray,.bool true])/\C9 w.heap.size t w'/\E4 A4 t/\t.size=size/\deep=d0/\t.deep=dd/\Uu cx cy deep size/\E3 size bs cx cy d0 t.cx t.cy dd))
theorem Vk (p:ByteArray)(k:Nat)(hk:k<p.size)(w:World):(Instr.index 9 (.string p) (.int .i64 k)).run Vp.prog w=.ok (.int .u8 (p[k]'hk).toNat) w:=by
 have h:=run_index_string (P:=Vp.prog) (w:=w) 9 p .i64 k (Vp.Di Tryz.underlying9);rw[h,dif_pos (by omega)]
 rfl
theorem Zk (p:ByteArray)(k:Nat)(hk:k<p.size):p.data.toList[k]?=some (p[k]'hk):=by
 have hk':k<p.data.size:=hk;rw[Ajv,Ai8 hk']
 rfl
theorem A4u {bs:List UInt8}{k:Nat}{c:UInt8}(h:bs[k]?=some c):bs.drop k=c :: bs.drop (k+1):=by
 obtain⟨hk,e⟩:=Aii.1 h;rw[List.drop_eq_getElem_cons hk,e]
def Pa (p:ByteArray)(e:Ending):Prop:=∃b,e=.returned (.bool b) /\(b=true↔∀c∈p.data.toList,dig c)
theorem Pa.no {p:ByteArray}(h:¬∀c∈p.data.toList,dig c):Pa p (.returned (.bool false)):=⟨false,rfl,⟨fun x=>(by cases x),fun x=>absurd x h⟩⟩
theorem Pa.yes {p:ByteArray}(h:∀c∈p.data.toList,dig c):Pa p (.returned (.bool true)):=⟨true,rfl,⟨fun _=>h,fun _=>rfl⟩⟩
theorem A16 (p:ByteArray)(hp:p.size<=8)(w:World):Calls Vp.prog 25 #[.string p,.int .i64 8] w fun e w'=>Pa p e/\w=w':=by
 have HIX:=Ai1 (Vk p);have HBA:=Ai1 (Zk p);obtain⟨n,hn⟩:∃n,p.size=n:=⟨_,rfl⟩;have HN:Hid (p.size=n/\p.data.toList.length=n):=⟨hn,by rw[Ajn];exact hn⟩
 go_enter Vp.func25,Tryz.ntmps25
 go_wp2
 go_loopw [12] (fun i wr=>∃k:Nat,k<=n/\i=.int .i64 k/\w=wr/\Hid (∀j c,j<k->p.data.toList[j]?=some c->dig c)) (fun i _=>(n-intOf i).toNat)
 case atStart=>exact⟨0,by omega,rfl,rfl,fun j c h=>by omega⟩
 case round =>
  obtain⟨k,hk,rfl,rfl,HD⟩:=hrel
  by_cases hlt:k<n
  ·have hix:=HIX.out k (by omega)
   have hba:=HBA.out k (by omega)
   generalize p[k]'(by omega)=c at *
   have HBK:=Ai1 hba;obtain⟨cn,hcn⟩:∃cn,c.toNat=cn:=⟨_,rfl⟩;have HCN:=Ai1 hcn;rw[hcn]at hix;clear hba
   by_cases h1:cn<48
   ·have HF:Hid (¬∀c∈p.data.toList,dig c):=fun h=>by
     have:=(h c (Aiu HBK.out)).1;have:=HCN.out
     omega
    have h1':((cn:Int)<48):=by omega
    go_wp2
    go_ret
    exact⟨Pa.no HF.out,rfl⟩
   ·by_cases h2:51<cn
    ·have HF:Hid (¬∀c∈p.data.toList,dig c):=fun h=>by
      have:=(h c (Aiu HBK.out)).2;have:=HCN.out
      omega
     have h1':¬((cn:Int)<48):=by omega
     have h2':(51:Int)<cn:=by omega
     go_wp2
     go_ret
     exact⟨Pa.no HF.out,rfl⟩
    ·have HD2:Hid (∀j c,j<k+1->p.data.toList[j]?=some c->dig c):=fun j c' hj hc=>by
      by_cases e:j=k
      ·subst e;rw[HBK.out]at hc;injection hc with hc
       subst hc;have:=HCN.out
       exact⟨by omega,by omega⟩
      ·exact HD.out j c' (by omega) hc
     have h1':¬((cn:Int)<48):=by omega
     have h2':¬(51:Int)<cn:=by omega
     go_wp2
     go_roundw
     case rel=>exact⟨k+1,by omega,by go_num,(by first|rfl|trivial),HD2⟩
     case measure=>simp[intOf];omega
  ·have HT:Hid (∀c∈p.data.toList,dig c):=fun c hc=>by
    obtain⟨j,hj,e⟩:=Ane hc
    exact HD.out j c (by have:=HN.out.2;omega) (by rw[<-e];exact Aig hj)
   go_wp2
   go_ret
   exact⟨Pa.yes HT.out,rfl⟩
end
section
open Go.RowKit Flo
attribute [local go_sem ↓] Go.wp_at_zero Go.wp_at_succ
attribute [local go_sem] A7 A5
theorem A8.Ahp {w0 W:World}{b:Nat}{C:Array Value}{T:TypeId}(h:A8 w0 b C T W){p:Nat}(hp:w0.heap.size<=p)(hne:b≠p)(u0 u1 u2 u3 u4:Value) :
 A8 w0 b C T (((((W.setCell ⟨p,0,none⟩ u0).setCell ⟨p,1,none⟩ u1).setCell ⟨p,2,none⟩ u2).setCell ⟨p,3,none⟩ u3).setCell ⟨p,4,none⟩ u4) :=
 ((((h.other (p:=⟨p,0,none⟩) hp hne u0).other (p:=⟨p,1,none⟩) hp hne u1).other (p:=⟨p,2,none⟩) hp hne u2).other (p:=⟨p,3,none⟩) hp hne u3).other (p:=⟨p,4,none⟩) hp hne u4
theorem A2h {s:Int}{c:UInt8}{cs:List UInt8}{cx cy d x y dd:Nat}:E3 s (c :: cs) cx cy d x y dd↔dig c/\Gl cx cy d s/\E3 s cs (Bi cx cy d s (c.toNat-48)).1 (Bi cx cy d s (c.toNat-48)).2 (d+1) x y dd:=Iff.rfl
theorem Gu.no {w w':World}{cx cy:Nat}{deep size A4:Int}{bs:List UInt8}(hb:Below w.heap.size w w')(h:¬Od cx cy deep size bs):Gu w cx cy deep size A4 bs (.returned (.tuple #[.agg #[.complex .f32 0 0,.int .i64 0,.int .i64 0,.slice none 0 0,.slice none 0 0],.bool false])) w':=⟨hb,.inl ⟨rfl,h⟩⟩
theorem Gu.yes {w w':World}{cx cy:Nat}{deep size A4:Int}{bs:List UInt8}{t:Ai}{d0 d:Nat}(hb:Below w.heap.size w w')(h1:C9 w.heap.size t w')(h2:E4 A4 t)(h3:t.size=size)(h4:deep=d0)(h5:t.deep=d)(h6:Uu cx cy deep size)(h7:E3 size bs cx cy d0 t.cx t.cy d) :
 Gu w cx cy deep size A4 bs (.returned (.tuple #[.agg #[.complex .f32 t.cx t.cy,.int .i64 t.deep,.int .i64 t.size,.slice (some ⟨t.gs,0,none⟩) t.n t.cs,.slice (some ⟨t.gm,0,none⟩) t.n t.cm],.bool true])) w':=⟨hb,.inr ⟨t,d0,d,rfl,h1,h2,h3,h4,h5,h6,h7⟩⟩
structure M5 (w:World)(tb cx cy d0:Nat)(size A4:Int)(bs:List UInt8)(k:Nat)(t:Ai)(d:Nat)(W:World):Prop where
 R:A8 w w.heap.size #[.complex .f32 0 0,.int .i64 0,.int .i64 0,.slice none 0 0,.slice none 0 0] 35 W
 T:A8 w tb #[.complex .f32 t.cx t.cy,.int .i64 t.deep,.int .i64 t.size,.slice (some ⟨t.gs,0,none⟩) t.n t.cs,.slice (some ⟨t.gm,0,none⟩) t.n t.cm] 35 W
 own:C9 w.heap.size t W
 Cd:E4 A4 t
 deep:t.deep=d
 sz:t.size=size
 tbw:w.heap.size<tb
 path:∀x y dd,E3 size bs cx cy d0 x y dd↔E3 size (bs.drop k) t.cx t.cy d x y dd
section
variable {w W W' : World} {tb cx cy d0 : Nat} {size A4 : Int} {bs : List UInt8} {k : Nat} {t : Ai} {d : Nat}
theorem M5.step (h:M5 w tb cx cy d0 size A4 bs k t d W)(b:Below W.heap.size W W'):M5 w tb cx cy d0 size A4 bs k t d W':=⟨h.R.step b,h.T.step b,h.own.step b,h.Cd,h.deep,h.sz,h.tbw,h.path⟩
theorem M5.cut (h:M5 w tb cx cy d0 size A4 bs k t d W){c:UInt8}(hc:bs[k]?=some c)(hn:¬(dig c/\Gl t.cx t.cy d size)){deep:Int}(hd:deep=d0):¬Od cx cy deep size bs:=by
 rintro⟨-,d1,x,y,dd,e,hP⟩;obtain rfl:d0=d1:=by omega
 have:=(h.path x y dd).1 hP;rw[A4u hc]at this
 exact hn ⟨this.1,this.2.1⟩
theorem M5.next (h:M5 w tb cx cy d0 size A4 bs k t d W){c:UInt8}(hc:bs[k]?=some c){j:Nat}(hj:c.toNat=48+j)(hdig:j<4)(hS:Gl t.cx t.cy d size){u:Ai}(hu:C9 w.heap.size u W)(hg:E4 A4 u)(ex:u.cx=(Bi t.cx t.cy d size j).1)(ey:u.cy=(Bi t.cx t.cy d size j).2)(ed:u.deep=(d:Int)+1)(es:u.size=size) :
 M5 w tb cx cy d0 size A4 bs (k+1) u (d+1) (((((W.setCell ⟨tb,0,none⟩ (.complex .f32 u.cx u.cy)).setCell ⟨tb,1,none⟩ (.int .i64 u.deep)).setCell ⟨tb,2,none⟩ (.int .i64 u.size)).setCell ⟨tb,3,none⟩ (.slice (some ⟨u.gs,0,none⟩) u.n u.cs)).setCell ⟨tb,4,none⟩ (.slice (some ⟨u.gm,0,none⟩) u.n u.cm)):=by
 have hb:w.heap.size<=tb:=Aku h.tbw
 refine⟨h.R.Ahp hb (Aji h.tbw) _ _ _ _ _,h.T.I1 hb _ _ _ _ _,hu.Aed h.T hb _ _ _ _ _,hg,by rw[ed];rfl,es,h.tbw,fun x y dd=>?_⟩
 rw[h.path,A4u hc,A2h];have e:c.toNat-48=j:=by omega
 rw[e,<-ex,<-ey]
 exact⟨fun h=>h.2.2,fun h=>⟨⟨by omega,by omega⟩,hS,h⟩⟩
end
end
section
open Go.RowKit Flo
attribute [local go_sem ↓] Go.wp_at_zero Go.wp_at_succ
attribute [local go_sem] A7 A5
theorem A0m (cx cy:Nat)(deep size A4:Int)(p:ByteArray)(hp:p.size<=8)(hx:cx<4294967296)(hy:cy<4294967296)(w:World) :
 Calls Vp.prog 9 #[.complex .f32 cx cy,.int .i64 deep,.int .i64 size,.int .i64 A4,.string p] w (Gu w cx cy deep size A4 p.data.toList):=by
 have HIX:=Ai1 (Vk p);have HBA:=Ai1 (Zk p);have HMK:=Ai1 (fun W=>Ou cx cy deep size A4 hx hy W)
 have HPW:=Ai1 (A16 p hp);obtain⟨n,hn⟩:∃n,p.size=n:=⟨_,rfl⟩;have HN:Hid (p.size=n/\p.data.toList.length=n):=⟨hn,by rw[Ajn];exact hn⟩
 rw[hn]at hp;have R:=A8.new w #[.complex .f32 0 0,.int .i64 0,.int .i64 0,.slice none 0 0,.slice none 0 0] 35;have HR:=Ai1 R;obtain⟨r0,r1,r2,r3,r4⟩:=R.Aa;obtain⟨f0,f1,f2,f3,f4⟩:=R.E7;clear R
 go_enter Vp.func9,Tryz.ntmps9
 go_wp2_with fail
 refine(HPW.out _).mono ?_
 rintro e w0 ⟨⟨pw,rfl,hpw⟩,rfl⟩;have HPWD:=Ai1 hpw;clear hpw
 cases pw with
 | false =>
   have HNO:Hid (¬Od cx cy deep size p.data.toList):=fun⟨_,d0,x,y,dd,_,h⟩=>by
    have:=HPWD.out.2 h.Ag7
    cases this
   have HB:=Ai1 HR.out.old
   go_wp2
   exact Ai6 (v:=.tuple #[.agg #[.complex .f32 0 0,.int .i64 0,.int .i64 0,.slice none 0 0,.slice none 0 0],.bool false]) (by simp[results,Tryz.f9,go_sem,r0,r1,r2,r3,r4]) rfl (Gu.no HB.out HNO.out)
 | true =>
  have HDG:Hid (∀c∈p.data.toList,dig c):=HPWD.out.1 rfl;clear HPWD
  go_wp2_with fail
  refine(HMK.out _).mono ?_
  rintro e w1 ⟨⟨x,y,dd,ss,a1,n1,c1,a2,n2,c2,ok,rfl,hM⟩,hb1⟩;have HM:=Ai1 hM;have HB1:=Ai1 hb1;have HR1:=Ai1 ((HR.out.step HB1.out).alloc (.cells #[.complex .f32 x y,.int .i64 dd,.int .i64 ss,.slice a1 n1 c1,.slice a2 n2 c2] 35));have htb:w.heap.size<w1.heap.size:=(HR.out.step HB1.out).lt;clear hM hb1 r0 r1 r2 r3 r4 f0 f1 f2 f3 f4;obtain⟨r0,r1,r2,r3,r4⟩:=HR1.out.Aa;obtain⟨f0,f1,f2,f3,f4⟩:=HR1.out.E7
  cases ok with
  | false =>
    have HNO:Hid (¬Od cx cy deep size p.data.toList):=fun h=>(HM.out.1 rfl).1 h.1
    have HBX:=Ai1 (HR.out.step HB1.out).old;have hbx:=HBX.out.size;have HZ:=Ai1 (((HR.out.step HB1.out).I1 (Ai3 _) (.complex .f32 0 0) (.int .i64 0) (.int .i64 0) (.slice none 0 0) (.slice none 0 0)).alloc (.cells #[.complex .f32 x y,.int .i64 dd,.int .i64 ss,.slice a1 n1 c1,.slice a2 n2 c2] 35));clear HR1 r0 r1 r2 r3 r4 f0 f1 f2 f3 f4;obtain⟨r0,r1,r2,r3,r4⟩:=(HR.out.step HB1.out).Aa;obtain⟨f0,f1,f2,f3,f4⟩:=(HR.out.step HB1.out).E7
    go_wp2
    obtain⟨z0,z1,z2,z3,z4⟩:=HZ.out.Aa
    exact Ai6 (v:=.tuple #[.agg #[.complex .f32 0 0,.int .i64 0,.int .i64 0,.slice none 0 0,.slice none 0 0],.bool false]) (by simp[results,Tryz.f9,go_sem,z0,z1,z2,z3,z4]) rfl (Gu.no ((I1 HBX.out (Ai3 _) _ _ _ _ _).alloc (by simp;omega) _) HNO.out)
  | true =>
    obtain⟨t,e1,e2,e3,e4,e5,ht,hgood⟩:=HM.out.2 rfl;obtain⟨d0,s0,hd0,hs0,-,-,-,-⟩:=hgood.n
    have hMK:Uu cx cy deep size:=by
     obtain⟨d,s,a,b,g1,g2,g3,-,-⟩:=hgood;rw[<-e1,<-e2,<-e3,<-e4]
     exact⟨d,s,a,b,g1,g2,g3⟩
    have HMKP:=Ai1 hMK
    have hC:(#[.complex .f32 x y,.int .i64 dd,.int .i64 ss,.slice a1 n1 c1,.slice a2 n2 c2]:Array Value)=#[.complex .f32 t.cx t.cy,.int .i64 t.deep,.int .i64 t.size,.slice (some ⟨t.gs,0,none⟩) t.n t.cs,.slice (some ⟨t.gm,0,none⟩) t.n t.cm]:=by
     injection e5
    injection hC with hC
    simp only[List.cons.injEq,and_true]at hC;obtain⟨g1,g2,g3,g4,g5⟩:=hC;injection g1 with _ g1 g1'
    injection g2 with _ g2
    injection g3 with _ g3
    injection g4 with g4 g4' g4''
    injection g5 with g5 g5' g5''
    subst g1 g1' g2 g3 g4 g4' g4'' g5 g5' g5'';have HD0:Hid (deep=d0):=e3.symm.trans hd0
    have HI0:Hid (M5 w w1.heap.size cx cy d0 size A4 p.data.toList 0 t d0 (w1.alloc (.cells #[.complex .f32 t.cx t.cy,.int .i64 t.deep,.int .i64 t.size,.slice (some ⟨t.gs,0,none⟩) t.n t.cs,.slice (some ⟨t.gm,0,none⟩) t.n t.cm] 35))):=by
     refine⟨HR1.out,((A8.new w1 _ _).up ((HR.out.step HB1.out).old)),?_,hgood,hd0,e4,htb,fun x y dd=>?_⟩
     ·exact(ht.step ((Aik _ _).alloc (Ai3 _) _)).mono (Aku (by have:=HR.out.lt;omega))
     ·rw[List.drop_zero,e1,e2]
    clear e1 e2 e3 e4 e5 ht hgood hMK hd0 hs0 HR1 HM HR r0 r1 r2 r3 r4 f0 f1 f2 f3 f4
    go_wp2
    generalize w1.heap.size=tb at *
    go_loopw [34] (fun i wr=>∃(k d:Nat) (t:Ai),k<=n/\i=.int .i64 k/\Hid (M5 w tb cx cy d0 size A4 p.data.toList k t d wr)) (fun i _=>(n-intOf i).toNat)
    case atStart=>exact⟨0,d0,t,by omega,rfl,HI0⟩
    case round =>
     clear HI0;obtain⟨k,d,t,hk,rfl,HI⟩:=hrel;obtain⟨wo,rfl⟩:∃wo,wo=wr:=⟨_,rfl⟩;obtain⟨t0,t1,t2,t3,t4⟩:=HI.out.T.Aa
     by_cases hlt:k<n
     ·have hix:=HIX.out k (by have:=HN.out.1;omega)
      have hba:=HBA.out k (by have:=HN.out.1;omega)
      generalize p[k]'(by have:=HN.out.1;omega)=c at *
      have HBK:=Ai1 hba;obtain⟨cn,hcn⟩:∃cn,c.toNat=cn:=⟨_,rfl⟩;have HCN:=Ai1 hcn;rw[hcn]at hix;clear hba hcn;obtain⟨d',hd',hsp⟩:=S5 A4 t w.heap.size wo HI.out.own HI.out.Cd;obtain rfl:d=d':=by have:=HI.out.deep;omega
      have HSP:Hid (Calls Vp.prog 26 #[.agg #[.complex .f32 t.cx t.cy,.int .i64 t.deep,.int .i64 t.size,.slice (some ⟨t.gs,0,none⟩) t.n t.cs,.slice (some ⟨t.gm,0,none⟩) t.n t.cm],.int .i64 A4] wo (Jf wo t.cx t.cy d t.size A4)):=hsp;clear hsp hd'
      go_wp2_with fail
      refine HSP.out.mono ?_
      rintro e w2 ⟨⟨a0,c0,rfl,k',hk',hno⟩ |⟨L,v,rfl,hL,hLl,hLt⟩,hb2⟩
      ·have HNO:Hid (¬Od cx cy deep size p.data.toList):=HI.out.cut HBK.out (fun h=>hno (by have:=h.2 k' hk';rw[<-HI.out.sz]at this;exact this)) HD0.out
       have HI2:=Ai1 (HI.out.step hb2);obtain⟨r0,r1,r2,r3,r4⟩:=HI2.out.R.Aa;obtain⟨f0,f1,f2,f3,f4⟩:=HI2.out.R.E7;have HB:=Ai1 HI2.out.R.old;clear hno hb2 t0 t1 t2 t3 t4 HSP
       go_wp2
       exact Ai6 (v:=.tuple #[.agg #[.complex .f32 0 0,.int .i64 0,.int .i64 0,.slice none 0 0,.slice none 0 0],.bool false]) (by simp[results,Tryz.f9,go_sem,r0,r1,r2,r3,r4]) rfl (Gu.no (I1 HB.out (Ai3 _) _ _ _ _ _) HNO.out)
      ·have hform:=ownsRow_form hL.row (by omega)
       obtain⟨g,cap,rfl,-,hcap⟩:=hform;have hszz:=HI.out.sz;rw[hszz]at hLt;clear hszz;have HL:=Ai1 hL;have HI2:=Ai1 (HI.out.step hb2)
       have HSPL:Hid (Gl t.cx t.cy d size):=fun j hj=>by
        obtain⟨u,hu⟩:∃u,L[j]?=some u:=⟨_,Aig (by omega)⟩
        obtain⟨q1,q2,q3,q4,q5⟩:=hLt j u hu;obtain⟨a1,a2,a3,a4,b1,b2,b3,-,-⟩:=q5;have hm:Uu u.cx u.cy u.deep u.size:=⟨a1,a2,a3,a4,b1,b2,b3⟩;rw[q1,q2,q3,q4]at hm
        exact hm
       have HLT:=Ai1 hLt;have HLN:=Ai1 hLl;have hb2s:=hb2.size;clear hL hb2 hLt t0 t1 t2 t3 t4 HSP;rw[hLl]at hcap ⊢;have hdg:dig c:=HDG.out c (Aiu HBK.out);have h1:¬cn<48:=by have:=hdg.1;have:=HCN.out;omega
       have h2:¬51<cn:=by have:=hdg.2;have:=HCN.out;omega
       obtain⟨j,hj⟩:∃j,cn=48+j:=⟨cn-48,by omega⟩
       have hj4:j<4:=by omega
       obtain⟨u,hu⟩:∃u,L[j]?=some u:=⟨_,Aig (by omega)⟩
       obtain⟨q1,q2,q3,q4,q5⟩:=HLT.out j u hu;have HU:=Ai1 (HL.out.own u (Aiu hu));have HCE:=Ai1 (show C3 wo.heap.size L (.slice (some ⟨g,0,none⟩) L.length cap) w2 from HL.out);obtain⟨y0,y1,y2,y3,y4⟩:=HCE.out.cells hu;obtain⟨t0,t1,t2,t3,t4⟩:=HI2.out.T.Aa;obtain⟨f0,f1,f2,f3,f4⟩:=HI2.out.T.E7;have HNX:=Ai1 (HI2.out.next HBK.out (HCN.out.trans hj) hj4 HSPL.out (HU.out.mono (Aku (by have:=HI.out.R.lt;exact this))) q5 q1 q2 q3 q4)
       have huT:=HI2.out.T.lt;clear q1 q2 q3 q4 q5 hu HCE HL HU HSPL HLT;subst hj;clear h1 h2
       rcases(by omega:j=0\/j=1\/j=2\/j=3)with rfl|rfl|rfl|rfl
       all_goals
        simp only[Nat.reduceMul,Nat.reduceAdd]at y0 y1 y2 y3 y4 hix
        go_wp2
        go_roundw
        case rel=>exact⟨k+1,d+1,u,by omega,by go_num,HNX⟩
        case measure=>simp[intOf];omega
     ·obtain rfl:k=n:=by omega
      have HP:Hid (E3 size p.data.toList cx cy d0 t.cx t.cy d):=(HI.out.path _ _ _).2 (by rw[<-HN.out.2,List.drop_length];exact⟨rfl,rfl,rfl⟩)
      obtain⟨r0,r1,r2,r3,r4⟩:=HI.out.R.Aa;obtain⟨f0,f1,f2,f3,f4⟩:=HI.out.R.E7;have HO:Hid (∀u0 u1 u2 u3 u4,C9 w.heap.size t (((((wo.setCell ⟨w.heap.size,0,none⟩ u0).setCell ⟨w.heap.size,1,none⟩ u1).setCell ⟨w.heap.size,2,none⟩ u2).setCell ⟨w.heap.size,3,none⟩ u3).setCell ⟨w.heap.size,4,none⟩ u4)):=fun u0 u1 u2 u3 u4=>HI.out.own.Aed HI.out.R (Ai3 _) u0 u1 u2 u3 u4
      have HB:=Ai1 HI.out.R.old
      go_wp2
      exact Ai6 (v:=.tuple #[.agg #[.complex .f32 t.cx t.cy,.int .i64 t.deep,.int .i64 t.size,.slice (some ⟨t.gs,0,none⟩) t.n t.cs,.slice (some ⟨t.gm,0,none⟩) t.n t.cm],.bool true]) (by simp[results,Tryz.f9,go_sem,r0,r1,r2,r3,r4]) rfl (Gu.yes (I1 HB.out (Ai3 _) _ _ _ _ _) (HO.out _ _ _ _ _) HI.out.Cd HI.out.sz HD0.out HI.out.deep HMKP.out HP.out)
end
section
open Go.RowKit Flo
attribute [local go_sem ↓] Go.wp_at_zero Go.wp_at_succ
attribute [local go_sem] A7 A5
theorem Sv (a b:Option Addr)(ca cb:Nat)(P:List ByteArray)(hn:P.length<=1048576)(w:World)(ha:Sl w a (P.map Value.string))(hb:Sl w b (P.map Value.string)) :
 Calls Vp.prog 23 #[.slice a P.length ca,.slice b P.length cb] w fun e w'=>e=.returned (.bool true)/\Aq w w':=by
 obtain⟨n,hnn⟩:∃n,P.length=n:=⟨_,rfl⟩;have HX:Hid (∀k,k<n->∃x,(P.map Value.string)[k]?=some (.string x)):=fun k h=>⟨P[k]'(by omega),by rw[Aiw,Aig (by omega)];rfl⟩
 have HA:=Ai1 ha;have HB:=Ai1 hb;rw[hnn]at hn ⊢;clear ha hb hnn
 go_enter Vp.func23,Tryz.ntmps23
 go_wp2
 go_loopw [5] (fun i wr=>∃k:Nat,k<=n/\i=.int .i64 k/\Hid (Aq w wr)) (fun i _=>(n-intOf i).toNat)
 case atStart=>exact⟨0,by omega,rfl,Aq.refl _⟩
 case round =>
  obtain⟨k,hk,rfl,HD⟩:=hrel
  by_cases hlt:k<n
  ·obtain⟨x,hx⟩:=HX.out k hlt;obtain⟨b1,o1,rfl,hc1⟩:=(HA.out.Vd HD.out).at hx;obtain⟨b2,o2,rfl,hc2⟩:=(HB.out.Vd HD.out).at hx;clear hx
   go_upto_region 6 with fail
   go_quiet (fail)
   have HD2:=Ai1 (HD.out.drewN nq)
   go_wp2
   go_roundw
   case rel=>exact⟨k+1,by omega,by go_num,HD2⟩
   case measure=>simp[intOf];omega
  ·go_wp2
   go_ret
   exact⟨rfl,HD.out⟩
theorem Su (a b:Option Addr)(ca cb:Nat)(xs:List Int)(hn:xs.length<=1048576)(w:World)(ha:Sl w a (xs.map Av))(hb:Sl w b (xs.map Av)) :
 Calls Vp.prog 24 #[.slice a xs.length ca,.slice b xs.length cb] w fun e w'=>e=.returned (.bool true)/\Aq w w':=by
 obtain⟨n,hnn⟩:∃n,xs.length=n:=⟨_,rfl⟩;have HX:Hid (∀k,k<n->∃x,(xs.map Av)[k]?=some (.int .i64 x)):=fun k h=>⟨xs[k]'(by omega),by rw[Aiw,Aig (by omega)];rfl⟩
 have HA:=Ai1 ha;have HB:=Ai1 hb;rw[hnn]at hn ⊢;clear ha hb hnn
 go_enter Vp.func24,Tryz.ntmps24
 go_wp2
 go_loopw [5] (fun i wr=>∃k:Nat,k<=n/\i=.int .i64 k/\Hid (Aq w wr)) (fun i _=>(n-intOf i).toNat)
 case atStart=>exact⟨0,by omega,rfl,Aq.refl _⟩
 case round =>
  obtain⟨k,hk,rfl,HD⟩:=hrel
  by_cases hlt:k<n
  ·obtain⟨x,hx⟩:=HX.out k hlt;obtain⟨b1,o1,rfl,hc1⟩:=(HA.out.Vd HD.out).at hx;obtain⟨b2,o2,rfl,hc2⟩:=(HB.out.Vd HD.out).at hx;clear hx
   go_upto_region 6 with fail
   go_quiet (fail)
   have HD2:=Ai1 (HD.out.drewN nq)
   go_wp2
   go_roundw
   case rel=>exact⟨k+1,by omega,by go_num,HD2⟩
   case measure=>simp[intOf];omega
  ·go_wp2
   go_ret
   exact⟨rfl,HD.out⟩
theorem Uh (p:ByteArray)(hp:8<p.size)(w:World):Calls Vp.prog 25 #[.string p,.int .i64 8] w fun e w'=>e=.returned (.bool false)/\w'=w:=by
 obtain⟨n,hn⟩:∃n,p.size=n:=⟨_,rfl⟩;have h1:decide ((8:Int) <(p.size:Int))=true:=Aip (by omega)
 go_enter Vp.func25,Tryz.ntmps25
 go_wp2
 go_ret
 exact⟨rfl,rfl⟩
theorem U8 (cx cy:Nat)(deep size A4:Int)(p:ByteArray)(hp:8<p.size)(w:World) :
 Calls Vp.prog 9 #[.complex .f32 cx cy,.int .i64 deep,.int .i64 size,.int .i64 A4,.string p] w fun e w'=>e=.returned (.tuple #[.agg #[.complex .f32 0 0,.int .i64 0,.int .i64 0,.slice none 0 0,.slice none 0 0],.bool false])/\Below w.heap.size w w':=by
 have HPW:=Ai1 (Uh p hp);have R:=A8.new w #[.complex .f32 0 0,.int .i64 0,.int .i64 0,.slice none 0 0,.slice none 0 0] 35;have HB:=Ai1 R.old;obtain⟨r0,r1,r2,r3,r4⟩:=R.Aa;obtain⟨f0,f1,f2,f3,f4⟩:=R.E7;clear R hp
 go_enter Vp.func9,Tryz.ntmps9
 go_wp2_with fail
 refine(HPW.out _).mono ?_
 rintro e w0 ⟨rfl,rfl⟩
 go_wp2
 exact Ai6 (v:=.tuple #[.agg #[.complex .f32 0 0,.int .i64 0,.int .i64 0,.slice none 0 0,.slice none 0 0],.bool false]) (by simp[results,Tryz.f9,go_sem,r0,r1,r2,r3,r4]) rfl ⟨rfl,HB.out⟩
theorem Ud (w:World):Calls Vp.prog 27 #[.agg #[.complex .f32 0 0,.int .i64 0,.int .i64 0,.slice none 0 0,.slice none 0 0]] w fun e w'=>e=.returned (.bool false)/\Below w.heap.size w w':=by
 have X:=A8.new w #[.complex .f32 0 0,.int .i64 0,.int .i64 0,.slice none 0 0,.slice none 0 0] 35;have HB:=Ai1 X.old;obtain⟨x0,x1,x2,x3,x4⟩:=X.Aa;have hp:Az 0 0 0 0=false:=by decide
 have HP:=Ai1 (fun W=>Mf 0 0 0 0 W)
 rw[hp]at HP;clear X hp
 go_enter Vp.func27,Tryz.ntmps27
 go_wp2_with fail
 refine(HP.out _).mono ?_
 rintro e w0 ⟨rfl,rfl⟩
 go_wp2
 go_ret
 exact⟨rfl,HB.out⟩
theorem Qd (w:World):Calls Vp.prog 10 #[.agg #[.complex .f32 0 0,.int .i64 0,.int .i64 0,.slice none 0 0,.slice none 0 0]] w fun e w'=>(∃a,e=.returned (.tuple #[.slice a 0 0,.bool false]))/\Below w.heap.size w w':=by
 have B:=A8.new w #[.complex .f32 0 0,.int .i64 0,.int .i64 0,.slice none 0 0,.slice none 0 0] 35;have HW:=Ai1 (fun W=>Ud W)
 obtain⟨x0,x1,x2,x3,x4⟩:=B.Aa
 go_enter Vp.func10,Tryz.ntmps10
 go_wp2_with fail
 refine(HW.out _).mono ?_
 rintro e w1 ⟨rfl,hd⟩;replace B:=Ai1 (B.step hd).old;clear hd HW x0 x1 x2 x3 x4
 go_wp2
 go_ret2
 first
  | exact⟨⟨_,rfl⟩,B.out⟩
  | exact⟨⟨_,rfl⟩,(B.out.alloc (by have:=B.out.size;omega) _)⟩
end
section
open Go.RowKit Flo
attribute [local go_sem ↓] Go.wp_at_zero Go.wp_at_succ
theorem Mg (pa pb oa ob:Option Addr)(n cp cp' co co':Nat)(P:List ByteArray)(ms:List Int)(hP:P.length=n)(hm:ms.length=n)(hn:n<=1000)(p q r:Int)(w:World)(h1:Sl w pa (P.map Value.string))(h2:Sl w pb (P.map Value.string))(h3:Sl w oa (ms.map Av))(h4:Sl w ob (ms.map Av)) :
 Calls Vp.prog 8 #[.agg #[.slice pa n cp,.slice oa n co,.int .i64 p,.int .i64 q,.int .i64 r],.agg #[.slice pb n cp',.slice ob n co',.int .i64 p,.int .i64 q,.int .i64 r]] w fun e w'=>e=.returned (.bool true)/\Below w.heap.size w w':=by
 have X:=(A8.new w #[.slice pa n cp,.slice oa n co,.int .i64 p,.int .i64 q,.int .i64 r] 29).alloc (.cells #[.slice pb n cp',.slice ob n co',.int .i64 p,.int .i64 q,.int .i64 r] 29);have Y:=(A8.new (w.alloc (.cells #[.slice pa n cp,.slice oa n co,.int .i64 p,.int .i64 q,.int .i64 r] 29)) #[.slice pb n cp',.slice ob n co',.int .i64 p,.int .i64 q,.int .i64 r] 29).up (A8.new w #[.slice pa n cp,.slice oa n co,.int .i64 p,.int .i64 q,.int .i64 r] 29).old;rw[Aim]at Y;have HX:=Ai1 (And.intro X Y)
 have HT:Hid (∀W,Below w.heap.size w W->Calls Vp.prog 23 #[.slice pa n cp,.slice pb n cp'] W fun e w'=>e=.returned (.bool true)/\Aq W w'):=fun W hW=>by
  have:=Sv pa pb cp cp' P (by omega) W (h1.step hW) (h2.step hW)
  rwa [hP]at this
 have HI:Hid (∀W,Below w.heap.size w W->Calls Vp.prog 24 #[.slice oa n co,.slice ob n co'] W fun e w'=>e=.returned (.bool true)/\Aq W w'):=fun W hW=>by
  have:=Su oa ob co co' ms (by omega) W (h3.step hW) (h4.step hW)
  rwa [hm]at this
 obtain⟨x0,x1,x2,x3,x4⟩:=X.Aa;obtain⟨y0,y1,y2,y3,y4⟩:=Y.Aa;clear X Y h1 h2 h3 h4
 go_enter Vp.func8,Tryz.ntmps8
 go_wp2_with fail
 refine(HT.out _ HX.out.1.old).mono ?_
 rintro e w1 ⟨rfl,hd1⟩;have HX1:=Ai1 (And.intro (HX.out.1.step (hd1.below _)) (HX.out.2.step (hd1.below _)));clear hd1 x0 x1 x2 x3 x4 y0 y1 y2 y3 y4 HX;obtain⟨x0,x1,x2,x3,x4⟩:=HX1.out.1.Aa;obtain⟨y0,y1,y2,y3,y4⟩:=HX1.out.2.Aa
 go_wp2_with fail
 refine(HI.out _ HX1.out.1.old).mono ?_
 rintro e w2 ⟨rfl,hd2⟩;have HX2:=Ai1 (And.intro (HX1.out.1.step (hd2.below _)) (HX1.out.2.step (hd2.below _)));clear hd2 x0 x1 x2 x3 x4 y0 y1 y2 y3 y4 HX1;obtain⟨x0,x1,x2,x3,x4⟩:=HX2.out.1.Aa;obtain⟨y0,y1,y2,y3,y4⟩:=HX2.out.2.Aa
 go_wp2
 go_ret
 exact⟨rfl,HX2.out.1.old⟩
end
section
open Go.Sort
section
variable {α : Type} [Inhabited α] (lt : α -> α -> Bool)
def Ot:Nat->Array α->Nat->Array α
 | 0,d,_=>d
 | f+1,d,j=>if j=0 then d else if lt d[j]! d[(j-1) / 2]! = true then Ot f (swp d j ((j-1) / 2)) ((j-1) / 2)else d
def M3 (d:Array α)(i n:Nat):Nat:=if 2*i+2<n/\lt d[2*i+2]! d[2*i+1]! = true then 2*i+2 else 2*i+1
def Db (n:Nat):Nat->Array α->Nat->Array α
 | 0,d,_=>d
 | f+1,d,i=>if n<=2*i+1 then d else if lt d[M3 lt d i n]! d[i]! = true then Db n f (swp d (M3 lt d i n) i) (M3 lt d i n)else d
def Jb (n:Nat)(d:Array α):Prop:=∀k,0<k->k<n->lt d[k]! d[(k-1) / 2]! = false
theorem Tk (d:Array α){i j:Nat}(hi:i<d.size)(hj:j<d.size):swp d i j=swp d j i:=by
 apply Array.ext
 ·simp[swp_size]
 ·intro k h1 h2;rw[swp_size]at h1;have e1:=swp_get d hi hj k;have e2:=swp_get d hj hi k;rw[Aks _ k (by rw[swp_size];exact h1)]at e1 e2
  rw[e1,e2]
  by_cases a:k=j
  ·by_cases b:k=i
   ·subst a;subst b;simp
   ·subst a;simp[b]
  ·by_cases b:k=i
   ·subst b;simp[a]
   ·simp[a,b]
variable {lt} (h : SWO lt)
include h
theorem Aeh:∀(f:Nat) (d:Array α) (j n:Nat),j<n->n<=d.size->j<f ->(∀k,0<k->k<n->k≠j->lt d[k]! d[(k-1) / 2]! = false) ->(∀k,0<k->k<n ->(k-1) / 2=j->0<j->lt d[k]! d[(j-1) / 2]! = false) ->
 PermIn 0 n d (Ot lt f d j)/\Jb lt n (Ot lt f d j):=by
 intro f
 induction f with
 | zero=>intro d j n _ _ hf;omega
 | succ f ih =>
   intro d j n hj hn hf h1 h2;unfold Ot
   by_cases h0:j=0
   ·rw[Aij h0]
    exact⟨permIn_refl _ _ _,fun k hk hkn=>h1 k hk hkn (by omega)⟩
   ·rw[Aid h0]
    by_cases hl:lt d[j]! d[(j-1) / 2]! = true
    ·rw[Aij hl];have hi:(j-1) / 2<j:=by omega
     obtain⟨i,hie⟩:∃i,(j-1) / 2=i:=⟨_,rfl⟩;rw[hie]at hl hi ⊢;have g:=swp_get d (i:=j) (j:=i) (by omega) (by omega)
     have:=ih (swp d j i) i n (by omega) (by rw[swp_size];exact hn) (by omega) (fun k hk hkn hki=>by
      rw[g,g,Aid hki]
      by_cases e:k=j
      ·subst e;rw[Aij rfl,hie,Aij rfl]
       exact h.asymmA hl
      ·rw[Aid e]
       by_cases e2:(k-1) / 2=i
       ·rw[Aij e2];have:=h1 k hk hkn e;rw[e2]at this
        cases hc:lt d[k]! d[j]! with
        | false=>rfl
        | true =>
          have:=h.trans _ _ _ hc hl
          simp_all
       ·rw[Aid e2]
        by_cases e3:(k-1) / 2=j
        ·rw[Aij e3];have:=h2 k hk hkn e3 (by omega)
         rwa [hie]at this
        ·rw[Aid e3]
         exact h1 k hk hkn e) (fun k hk hkn hki hi0=>by
      have hp:=h1 i hi0 (by omega) (by omega)
      rw[g,g,Aid (show k≠i by omega),Aid (show(i-1) / 2≠i by omega),Aid (show(i-1) / 2≠j by omega)]
      by_cases e:k=j
      ·rw[Aij e]
       exact hp
      ·rw[Aid e];have:=h1 k hk hkn e;rw[hki]at this
       exact h.ntrans _ _ _ this hp)
     exact⟨permIn_trans _ _ _ _ _ (swp_permIn d 0 n j i (Aj9 _) hj (Aj9 _) (by omega) hn) this.1,this.2⟩
    ·rw[Aid hl]
     refine⟨permIn_refl _ _ _,fun k hk hkn=>?_⟩
     by_cases e:k=j
     ·subst e;simpa using hl
     ·exact h1 k hk hkn e
theorem A99:∀(f:Nat) (d:Array α) (i n:Nat),i<n->n<=d.size->n<f+i ->(∀k,0<k->k<n ->(k-1) / 2≠i->lt d[k]! d[(k-1) / 2]! = false) ->(∀k,0<k->k<n ->(k-1) / 2=i->0<i->lt d[k]! d[(i-1) / 2]! = false) ->
 PermIn 0 n d (Db lt n f d i)/\Jb lt n (Db lt n f d i):=by
 intro f
 induction f with
 | zero=>intro d i n hi _ hf;omega
 | succ f ih =>
   intro d i n hi hn hf h1 h2;unfold Db
   by_cases h0:n<=2*i+1
   ·rw[Aij h0]
    exact⟨permIn_refl _ _ _,fun k hk hkn=>h1 k hk hkn (by omega)⟩
   ·rw[Aid h0];obtain⟨j,hje⟩:∃j,M3 lt d i n=j:=⟨_,rfl⟩
    have hj:(j=2*i+1\/j=2*i+2)/\j<n/\∀k,0<k->k<n ->(k-1) / 2=i->lt d[k]! d[j]! = false:=by
     unfold M3 at hje
     split at hje
     ·rename_i hc
      subst hje
      refine⟨.inr rfl,hc.1,fun k hk hkn hki=>?_⟩
      rcases(show k=2*i+1\/k=2*i+2 by omega)with rfl|rfl
      ·exact h.asymmA hc.2
      ·exact h.irrefl _
     ·rename_i hc
      subst hje
      refine⟨.inl rfl,by omega,fun k hk hkn hki=>?_⟩
      rcases(show k=2*i+1\/k=2*i+2 by omega)with rfl|rfl
      ·exact h.irrefl _
      ·cases hb:lt d[2*i+2]! d[2*i+1]! with
       | false=>rfl
       | true=>exact absurd ⟨hkn,hb⟩ hc
    rw[hje];obtain⟨hj1,hj2,hj3⟩:=hj;have hpj:(j-1) / 2=i:=by omega
    by_cases hl:lt d[j]! d[i]! = true
    ·rw[Aij hl];have g:=swp_get d (i:=j) (j:=i) (by omega) (by omega)
     have:=ih (swp d j i) j n hj2 (by rw[swp_size];exact hn) (by omega) (fun k hk hkn hkj=>by
      rw[g,g,Aid hkj]
      by_cases e:k=i
      ·subst e;rw[Aij rfl,Aid (show(k-1) / 2≠k by omega)]
       exact h2 j (by omega) hj2 hpj hk
      ·rw[Aid e]
       by_cases e1:k=j
       ·subst e1;rw[Aij rfl,Aij hpj]
        exact h.asymmA hl
       ·rw[Aid e1]
        by_cases e2:(k-1) / 2=i
        ·rw[Aij e2]
         exact hj3 k hk hkn e2
        ·rw[Aid e2]
         exact h1 k hk hkn e2) (fun k hk hkn hkj hj0=>by
      rw[g,g,Aid (show k≠i by omega),Aid (show k≠j by omega),hpj,Aij rfl]
      have:=h1 k hk hkn (by omega)
      rwa [hkj]at this)
     exact⟨permIn_trans _ _ _ _ _ (swp_permIn d 0 n j i (Aj9 _) hj2 (Aj9 _) (by omega) hn) this.1,this.2⟩
    ·rw[Aid hl]
     refine⟨permIn_refl _ _ _,fun k hk hkn=>?_⟩
     by_cases e:(k-1) / 2=i
     ·rw[e]
      exact h.ntrans _ _ _ (hj3 k hk hkn e) (by simpa using hl)
     ·exact h1 k hk hkn e
theorem Jb.root {n:Nat}{d:Array α}(hd:Jb lt n d):∀k,k<n->lt d[k]! d[0]! = false:=by
 intro k
 induction k using Nat.strongRecOn with
 | ind k ih =>
   intro hk
   by_cases h0:k=0
   ·subst h0;exact h.irrefl _
   ·exact h.ntrans _ _ _ (hd k (by omega) hk) (ih _ (by omega) (by omega))
end
end
section
open Go.RowKit Go.Sort
attribute [local go_sem ↓] Go.wp_at_zero Go.wp_at_succ
structure Ad where
 t:Ai
 path:ByteArray
 opn:Int
instance: Inhabited Ad:=⟨⟨⟨0,0,0,0,0,0,0,0,[],[]⟩,⟨#[]⟩,0⟩⟩
def Ag (p:Ad):List Value:=p.t.cells++[.string p.path,.int .i64 p.opn]
theorem Fh (p:Ad):(Ag p).length=7:=rfl
theorem Iz (p:Ad):∀v∈Ag p,v.oneCell'=true:=by
 intro v hv;unfold Ag Ai.cells at hv;simp only[Ajd,Ajf,Aja,Akv]at hv
 rcases hv with(rfl|rfl|rfl|rfl|rfl)|rfl|rfl<;>rfl
def E0 (a b:Ad):Bool:=if a.opn=b.opn then Op.bytesLess a.path.toList b.path.toList else decide (b.opn<a.opn)
theorem Iw (x:List UInt8):Op.bytesLess x x=false:=by
 rw[bytesLess_eq];simp[List.lt_irrefl]
theorem Na {x y z:List UInt8}(h:Op.bytesLess x y=true)(g:Op.bytesLess y z=true):Op.bytesLess x z=true:=by
 rw[bytesLess_eq]at *;simp only[Aiv]at *
 exact List.lt_trans h g
theorem V5 {x y z:List UInt8}(h:Op.bytesLess x y=false)(g:Op.bytesLess y z=false):Op.bytesLess x z=false:=by
 rw[bytesLess_eq]at *;simp only[Amu,List.not_lt]at *
 exact List.le_trans g h
theorem Afl:SWO E0 where
 irrefl x:=by unfold E0;rw[Aij rfl];exact Iw _
 trans x y z h g:=by
  unfold E0 at *
  split at h<;>split at g<;>split
  ·exact Na h g
  ·omega
  ·omega
  ·simpa using (show z.opn<x.opn by simp at g;omega)
  ·simp at h;omega
  ·simpa using (show z.opn<x.opn by simp at h;omega)
  ·simp at h g;omega
  ·simpa using (show z.opn<x.opn by simp at h g;omega)
 ntrans x y z h g:=by
  unfold E0 at *
  split at h<;>split at g<;>split
  ·exact V5 h g
  ·omega
  ·omega
  ·simpa using (show x.opn<=z.opn by simp at g;omega)
  ·simp at h;omega
  ·simpa using (show x.opn<=z.opn by simp at h;omega)
  ·simp at h g;omega
  ·simpa using (show x.opn<=z.opn by simp at h g;omega)
def Grn (w w':World):Prop:=∃q os,w'=grow (w.drewN q) os
theorem A12 (a b:Ad)(w:World):Calls Vp.prog 34 #[.agg (Ag a).toArray,.agg (Ag b).toArray] w fun e w'=>e=.returned (.bool (E0 a b))/\Grn w w':=by
 have e1:(Ag a).toArray=#[.complex .f32 a.t.cx a.t.cy,.int .i64 a.t.deep,.int .i64 a.t.size,.slice (some ⟨a.t.gs,0,none⟩) a.t.n a.t.cs,.slice (some ⟨a.t.gm,0,none⟩) a.t.n a.t.cm,.string a.path,.int .i64 a.opn]:=rfl;have e2:(Ag b).toArray=#[.complex .f32 b.t.cx b.t.cy,.int .i64 b.t.deep,.int .i64 b.t.size,.slice (some ⟨b.t.gs,0,none⟩) b.t.n b.t.cs,.slice (some ⟨b.t.gm,0,none⟩) b.t.n b.t.cm,.string b.path,.int .i64 b.opn]:=rfl;have X:=(A8.new w (Ag a).toArray 52).alloc (.cells (Ag b).toArray 52);have Y:=A8.new (w.alloc (.cells (Ag a).toArray 52)) (Ag b).toArray 52;rw[Aim]at Y;rw[e1,e2]at X Y ⊢;have x5:=X.cell 5 _ rfl;have x6:=X.cell 6 _ rfl;have y5:=Y.cell 5 _ rfl;have y6:=Y.cell 6 _ rfl;clear X Y;have HG:Hid (∀o1 o2:Obj,Grn w ((w.alloc o1).alloc o2)):=fun o1 o2=>⟨0,#[o1,o2],by rw[alloc_eq_grow,alloc_eq_grow,grow_grow];rfl⟩
 by_cases h:a.opn=b.opn
 ·have f:(a.opn != b.opn)=false:=by simp[h]
  have r:E0 a b=Op.bytesLess a.path.toList b.path.toList:=by unfold E0;rw[Aij h]
  rw[r];clear r h
  go_enter Vp.func34,Tryz.ntmps34
  go_wp2
  go_ret
  exact⟨rfl,HG.out _ _⟩
 ·have f:(a.opn != b.opn)=true:=by simp[h]
  have r:E0 a b=decide (b.opn<a.opn):=by unfold E0;rw[Aid h]
  rw[r];clear r h
  go_enter Vp.func34,Tryz.ntmps34
  go_wp2
  all_goals
   go_ret
   exact⟨by simp_all,HG.out _ _⟩
end
section
open Go.RowKit Go.Sort
attribute [local go_sem ↓] Go.wp_at_zero Go.wp_at_succ
structure HpS (hb g n cap:Nat)(w:World):Prop where
 c0:w.cell? ⟨hb,0,none⟩=some (.slice (some ⟨g,0,none⟩) n cap)
 c1:w.cell? ⟨hb,1,none⟩=some (.func (.func 34) #[] #[])
theorem HpS.step {hb g n cap:Nat}{w w':World}(h:HpS hb g n cap w)(k:Below w.heap.size w w'):HpS hb g n cap w' :=
 ⟨(k.cell (p:=⟨hb,0,none⟩) (Aix w _ h.c0)).trans h.c0,(k.cell (p:=⟨hb,1,none⟩) (Aix w _ h.c1)).trans h.c1⟩
def Dm (g cap:Nat)(d:Array Ad)(w:World):Prop :=
 ∃cur,w.heap[g]?=some (.cells cur 52 (0,0))/\cur.size=cap*7/\d.size<=cap/\∀k,k<d.size->∀j,j<7->cur[k*7+j]?=(Ag d[k]!)[j]?
theorem Dm.cell {g cap:Nat}{d:Array Ad}{w:World}(h:Dm g cap d w){k:Nat}(hk:k<d.size){j:Nat}{v:Value}(hj:(Ag d[k]!)[j]?=some v):w.cell? ⟨g,k*7+j,none⟩=some v:=by
 obtain⟨cur,h1,_,_,h3⟩:=h;unfold World.cell?;rw[h1];have hl:j<7:=by have:=(Aii.1 hj).1;rwa [Fh]at this
 exact(h3 k hk j hl).trans hj
theorem Dm.lt {g cap:Nat}{d:Array Ad}{w:World}(h:Dm g cap d w):g<w.heap.size:=by
 obtain⟨cur,h1,_⟩:=h
 exact(Ai2.1 h1).1
theorem Dm.step {g cap:Nat}{d:Array Ad}{w w':World}(h:Dm g cap d w)(k:Below w.heap.size w w'):Dm g cap d w':=by
 have hl:=h.lt;obtain⟨cur,h1,h2⟩:=h
 exact⟨cur,(k.block g hl).trans h1,h2⟩
theorem Dm.Cv {g cap:Nat}{d:Array Ad}{w:World}(h:Dm g cap d w){k:Nat}(hk:k<d.size){p:Ad}(hp:d[k]! = p) :
 w.cell? ⟨g,k*7,none⟩=some (.complex .f32 p.t.cx p.t.cy)/\w.cell? ⟨g,k*7+1,none⟩=some (.int .i64 p.t.deep)/\w.cell? ⟨g,k*7+2,none⟩=some (.int .i64 p.t.size) /\
  w.cell? ⟨g,k*7+3,none⟩=some (.slice (some ⟨p.t.gs,0,none⟩) p.t.n p.t.cs)/\w.cell? ⟨g,k*7+4,none⟩=some (.slice (some ⟨p.t.gm,0,none⟩) p.t.n p.t.cm) /\
  w.cell? ⟨g,k*7+5,none⟩=some (.string p.path)/\w.cell? ⟨g,k*7+6,none⟩=some (.int .i64 p.opn):=by
 subst hp
 exact⟨h.cell hk (j:=0) rfl,h.cell hk (j:=1) rfl,h.cell hk (j:=2) rfl,h.cell hk (j:=3) rfl,h.cell hk (j:=4) rfl,h.cell hk (j:=5) rfl,h.cell hk (j:=6) rfl⟩
theorem Grn.below {w w':World}(h:Grn w w'):Below w.heap.size w w':=by
 obtain⟨q,os,rfl⟩:=h
 refine⟨rfl,rfl,rfl,?_,fun k hk=>?_⟩
 ·show w.heap.size <=(w.heap++os).size
  simp
 ·show(w.heap++os)[k]?=w.heap[k]?
  rw[Alk hk]
theorem Y8 (hb g n cap i j:Nat)(d:Array Ad)(hn:d.size=n)(hi:i<n)(hj:j<n)(w:World)(H:HpS hb g n cap w)(R:Dm g cap d w) :
 Calls Vp.prog 164 #[.pointer (some ⟨hb,0,none⟩),.int .i64 i,.int .i64 j] w fun e w'=>e=.returned (.bool (E0 d[i]! d[j]!))/\Below w.heap.size w w':=by
 obtain⟨p,hp⟩:∃p,d[i]! = p:=⟨_,rfl⟩;obtain⟨q,hq⟩:∃q,d[j]! = q:=⟨_,rfl⟩;rw[hp,hq];obtain⟨r,hr⟩:∃r,E0 p q=r:=⟨_,rfl⟩;have M:=fun W:World=>A12 p q W
 rw[hr]at M ⊢;have e1:(Ag p).toArray=#[.complex .f32 p.t.cx p.t.cy,.int .i64 p.t.deep,.int .i64 p.t.size,.slice (some ⟨p.t.gs,0,none⟩) p.t.n p.t.cs,.slice (some ⟨p.t.gm,0,none⟩) p.t.n p.t.cm,.string p.path,.int .i64 p.opn]:=rfl;have e2:(Ag q).toArray=#[.complex .f32 q.t.cx q.t.cy,.int .i64 q.t.deep,.int .i64 q.t.size,.slice (some ⟨q.t.gs,0,none⟩) q.t.n q.t.cs,.slice (some ⟨q.t.gm,0,none⟩) q.t.n q.t.cm,.string q.path,.int .i64 q.opn]:=rfl;rw[e1,e2]at M;have x0:∀s:Kw w,s.W.cell? ⟨hb,0,none⟩=some (.slice (some ⟨g,0,none⟩) n cap):=fun s=>(H.step s.h).c0
 have x1:∀s:Kw w,s.W.cell? ⟨hb,1,none⟩=some (.func (.func 34) #[] #[]):=fun s=>(H.step s.h).c1
 have a0:∀s:Kw w,s.W.cell? ⟨g,i*7,none⟩=some (.complex .f32 p.t.cx p.t.cy):=fun s=>((R.step s.h).Cv (by omega) hp).1
 have a1:∀s:Kw w,s.W.cell? ⟨g,i*7+1,none⟩=some (.int .i64 p.t.deep):=fun s=>((R.step s.h).Cv (by omega) hp).2.1
 have a2:∀s:Kw w,s.W.cell? ⟨g,i*7+2,none⟩=some (.int .i64 p.t.size):=fun s=>((R.step s.h).Cv (by omega) hp).2.2.1
 have a3:∀s:Kw w,s.W.cell? ⟨g,i*7+3,none⟩=some (.slice (some ⟨p.t.gs,0,none⟩) p.t.n p.t.cs):=fun s=>((R.step s.h).Cv (by omega) hp).2.2.2.1
 have a4:∀s:Kw w,s.W.cell? ⟨g,i*7+4,none⟩=some (.slice (some ⟨p.t.gm,0,none⟩) p.t.n p.t.cm):=fun s=>((R.step s.h).Cv (by omega) hp).2.2.2.2.1
 have a5:∀s:Kw w,s.W.cell? ⟨g,i*7+5,none⟩=some (.string p.path):=fun s=>((R.step s.h).Cv (by omega) hp).2.2.2.2.2.1
 have a6:∀s:Kw w,s.W.cell? ⟨g,i*7+6,none⟩=some (.int .i64 p.opn):=fun s=>((R.step s.h).Cv (by omega) hp).2.2.2.2.2.2
 have b0:∀s:Kw w,s.W.cell? ⟨g,j*7,none⟩=some (.complex .f32 q.t.cx q.t.cy):=fun s=>((R.step s.h).Cv (by omega) hq).1
 have b1:∀s:Kw w,s.W.cell? ⟨g,j*7+1,none⟩=some (.int .i64 q.t.deep):=fun s=>((R.step s.h).Cv (by omega) hq).2.1
 have b2:∀s:Kw w,s.W.cell? ⟨g,j*7+2,none⟩=some (.int .i64 q.t.size):=fun s=>((R.step s.h).Cv (by omega) hq).2.2.1
 have b3:∀s:Kw w,s.W.cell? ⟨g,j*7+3,none⟩=some (.slice (some ⟨q.t.gs,0,none⟩) q.t.n q.t.cs):=fun s=>((R.step s.h).Cv (by omega) hq).2.2.2.1
 have b4:∀s:Kw w,s.W.cell? ⟨g,j*7+4,none⟩=some (.slice (some ⟨q.t.gm,0,none⟩) q.t.n q.t.cm):=fun s=>((R.step s.h).Cv (by omega) hq).2.2.2.2.1
 have b5:∀s:Kw w,s.W.cell? ⟨g,j*7+5,none⟩=some (.string q.path):=fun s=>((R.step s.h).Cv (by omega) hq).2.2.2.2.2.1
 have b6:∀s:Kw w,s.W.cell? ⟨g,j*7+6,none⟩=some (.int .i64 q.opn):=fun s=>((R.step s.h).Cv (by omega) hq).2.2.2.2.2.2
 have CM:Hid (∀s:Kw w,Calls Vp.prog 34 #[.agg #[.complex .f32 p.t.cx p.t.cy,.int .i64 p.t.deep,.int .i64 p.t.size,.slice (some ⟨p.t.gs,0,none⟩) p.t.n p.t.cs,.slice (some ⟨p.t.gm,0,none⟩) p.t.n p.t.cm,.string p.path,.int .i64 p.opn],.agg #[.complex .f32 q.t.cx q.t.cy,.int .i64 q.t.deep,.int .i64 q.t.size,.slice (some ⟨q.t.gs,0,none⟩) q.t.n q.t.cs,.slice (some ⟨q.t.gm,0,none⟩) q.t.n q.t.cm,.string q.path,.int .i64 q.opn]] s.W fun e w'=>e=.returned (.bool r)/\∃s':Kw w,w'=s'.W):=fun s=>by
  refine(M _).mono ?_
  rintro e w' ⟨rfl,hd⟩
  exact⟨rfl,s.step hd.below,rfl⟩
 have i1:(i:Int)<n:=by omega
 have i0:(0:Int)<=i:=by omega
 have j1:(j:Int)<n:=by omega
 have j0:(0:Int)<=j:=by omega
 clear M e1 e2 hr hp hq H R hn hi hj
 go_enter Vp.func164,Tryz.ntmps164
 go_upto_region 1 with fail
 refine Tv (by kernel_rfl) (by kernel_rfl) ?_
 repeat (go_big_quiet_step (first |(go_at_call 34;exact CM.out _) |(go_at_fn 34;exact CM.out _)))
 refine wpQuiet_nil ?_
 rintro _ ⟨sq,rfl⟩;have HB:=Ai1 sq.h;clear x0 x1 a0 a1 a2 a3 a4 a5 a6 b0 b1 b2 b3 b4 b5 b6 CM;generalize sq.W=w9 at *
 go_wp2
 go_ret
 exact⟨rfl,HB.out⟩
theorem A9p (hb g n cap:Nat)(w:World)(H:HpS hb g n cap w):Calls Vp.prog 38 #[.pointer (some ⟨hb,0,none⟩)] w fun e w'=>e=.returned (.int .i64 n)/\Below w.heap.size w w':=by
 have x0:=H.c0;clear H
 go_enter Vp.func38,Tryz.ntmps38
 go_wp2
 go_ret
 exact⟨rfl,Aik _ _⟩
end
section
open Go.RowKit Go.Sort
attribute [local go_sem ↓] Go.wp_at_zero Go.wp_at_succ
theorem Jh {W:World}{g:Nat}{cur:Array Value}{T:TypeId}{f:Nat×Nat}(h:W.heap[g]?=some (.cells cur T f))(o:Nat)(v:Value):(W.setCell ⟨g,o,none⟩ v).heap[g]?=some (.cells (cur.setIfInBounds o v) T f):=by
 obtain⟨hlt,he⟩:=Ai2.1 h
 show(W.heap.modify g _)[g]?=_
 rw[Ai8 (by rw[Array.size_modify];exact hlt),Array.getElem_modify_self,he]
 rfl
abbrev Af9 (W:World)(g o:Nat)(v0 v1 v2 v3 v4 v5 v6:Value):World :=
 ((((((W.setCell ⟨g,o,none⟩ v0).setCell ⟨g,o+1,none⟩ v1).setCell ⟨g,o+2,none⟩ v2).setCell ⟨g,o+3,none⟩ v3).setCell ⟨g,o+4,none⟩ v4).setCell ⟨g,o+5,none⟩ v5).setCell ⟨g,o+6,none⟩ v6
theorem Wj {w W:World}{g:Nat}(h:By g w W)(o:Nat)(v0 v1 v2 v3 v4 v5 v6:Value):By g w (Af9 W g o v0 v1 v2 v3 v4 v5 v6) :=
 ((((((h.setCell _ _).setCell _ _).setCell _ _).setCell _ _).setCell _ _).setCell _ _).setCell _ _
theorem Aah {W:World}{g o:Nat}{cur:Array Value}{T:TypeId}{f:Nat×Nat}(h:W.heap[g]?=some (.cells cur T f))(ho:o+7<=cur.size)(v0 v1 v2 v3 v4 v5 v6:Value) :
 ∃cur',(Af9 W g o v0 v1 v2 v3 v4 v5 v6).heap[g]?=some (.cells cur' T f)/\cur'.size=cur.size /\(∀j,j<7->cur'[o+j]?=[v0,v1,v2,v3,v4,v5,v6][j]?)/\∀m,(m<o\/o+7<=m)->cur'[m]?=cur[m]?:=by
 refine⟨_,Jh (Jh (Jh (Jh (Jh (Jh (Jh h _ _) _ _) _ _) _ _) _ _) _ _) _ _,by simp,fun j hj=>?_,fun m hm=>?_⟩
 ·rcases(show j=0\/j=1\/j=2\/j=3\/j=4\/j=5\/j=6 by omega)with rfl|rfl|rfl|rfl|rfl|rfl|rfl<;>simp[show ∀k,k<7->o+k<cur.size from fun k hk=>by omega,show o<cur.size by omega]
 ·simp only[Ait];rw[Aid (by omega),Aid (by omega),Aid (by omega),Aid (by omega),Aid (by omega),Aid (by omega),Aid (by omega)]
abbrev Nx (W:World)(g i:Nat)(p:Ad):World:=Af9 W g (i*7) (.complex .f32 p.t.cx p.t.cy) (.int .i64 p.t.deep) (.int .i64 p.t.size) (.slice (some ⟨p.t.gs,0,none⟩) p.t.n p.t.cs) (.slice (some ⟨p.t.gm,0,none⟩) p.t.n p.t.cm) (.string p.path) (.int .i64 p.opn)
theorem Dm.set {g cap:Nat}{d d':Array Ad}{W:World}(h:Dm g cap d W){i:Nat}(hi:i<d.size)(p:Ad)(hs:d'.size=d.size)(hd:∀k,k<d.size->d'[k]! = if k=i then p else d[k]!):Dm g cap d' (Nx W g i p):=by
 obtain⟨cur,h1,h2,h3,h4⟩:=h;obtain⟨cur',c1,c2,c3,c4⟩:=Aah h1 (o:=i*7) (by omega) (.complex .f32 p.t.cx p.t.cy) (.int .i64 p.t.deep) (.int .i64 p.t.size) (.slice (some ⟨p.t.gs,0,none⟩) p.t.n p.t.cs) (.slice (some ⟨p.t.gm,0,none⟩) p.t.n p.t.cm) (.string p.path) (.int .i64 p.opn)
 refine⟨cur',c1,c2.trans h2,by omega,fun k hk j hj=>?_⟩
 rw[hd k (by omega)]
 by_cases e:k=i
 ·subst e;rw[Aij rfl]
  exact c3 j hj
 ·rw[Aid e,c4 _ (by omega)]
  exact h4 k (by omega) j hj
theorem Dm.free {g cap:Nat}{d:Array Ad}{W:World}(h:Dm g cap d W)(o:Nat):W.frozen? ⟨g,o,none⟩=false:=by
 obtain⟨cur,h1,_⟩:=h;unfold World.frozen?;rw[h1]
 rfl
theorem Dm.store {P:Program}{g cap:Nat}{d:Array Ad}{W:World}(h:Dm g cap d W){i:Nat}(hi:i<d.size)(p:Ad):Sem.run P (storeCells ⟨g,i*7,none⟩ (Ag p) 0) W=.ok () (Nx W g i p):=by
 obtain⟨cur,h1,h2,h3,_⟩:=h
 have:=run_storeCells_cells (P:=P) g (i*7) (Ag p) 0 W (fun j hj=>by
  rw[Fh]at hj;unfold World.cell?;rw[h1]
  show(cur[i*7+0+j]?).isSome=true
  rw[Ai8 (by omega)]
  rfl) (fun j hj=>by
  unfold World.frozen?;rw[h1]
  rfl) (Iz p)
 exact this
theorem L9 (b o j:Nat):(⟨b,o,none⟩:Addr).add j=⟨b,o+j,none⟩:=by unfold Addr.add;split<;>simp_all
theorem Dm.load {P:Program}{g cap:Nat}{d:Array Ad}{W:World}(h:Dm g cap d W){i:Nat}(hi:i<d.size):Sem.run P (loadCellsFrom ⟨g,i*7,none⟩ 0 7 #[]) W=.ok (Ag d[i]!).toArray W :=
 run_loadCellsFrom_list P _ _ _ 7 (Fh _) fun j v hj=>by
  rw[L9]
  exact h.cell hi hj
theorem Yp (d:Array Ad)(i k:Nat)(v:Ad)(hi:i<d.size):(d.setIfInBounds i v)[k]! = if k=i then v else d[k]!:=by
 simp only[getElem!_def,Ait]
 by_cases e:k=i
 ·subst e;simp[hi]
 ·simp[e,Akx e]
theorem Qz (hb g n cap i j:Nat)(d:Array Ad)(hn:d.size=n)(hi:i<n)(hj:j<n)(w:World)(H:HpS hb g n cap w)(R:Dm g cap d w) :
 Calls Vp.prog 167 #[.pointer (some ⟨hb,0,none⟩),.int .i64 i,.int .i64 j] w fun e w'=>e=.returned (.tuple #[])/\By g w w'/\Dm g cap (swp d i j) w':=by
 have hdw:Below w.heap.size w w.drew:=(Aq.refl _).drew.below _;obtain⟨p,hp⟩:∃p,d[i]! = p:=⟨_,rfl⟩;obtain⟨q,hq⟩:∃q,d[j]! = q:=⟨_,rfl⟩;have R':=R.step hdw;have H':=H.step hdw;have x0:=H.c0;have i1:(i:Int)<n:=by omega
 have i0:(0:Int)<=i:=by omega
 have j1:(j:Int)<n:=by omega
 have j0:(0:Int)<=j:=by omega
 have HF:Hid (By g w (Nx (Nx w.drew g i q) g j p)/\Dm g cap (swp d i j) (Nx (Nx w.drew g i q) g j p)):=by
  have R1:=R'.set (d':=d.setIfInBounds i q) (i:=i) (by omega) q (by simp) fun k hk=>Yp d i k q (by omega)
  refine⟨Wj (Wj (By.Aw hdw) _ _ _ _ _ _ _ _) _ _ _ _ _ _ _ _,R1.set (i:=j) (by simp;omega) p (by simp[swp]) fun k hk=>?_⟩
  have hk:k<d.size:=by simpa using hk
  rw[swp_get d (by omega) (by omega),hp,hq]
  by_cases e:k=j
  ·rw[Aij e,Aij e]
  ·rw[Aid e,Aid e,Yp d i k q (by omega)]
 have R1:=R'.set (d':=d.setIfInBounds i q) (i:=i) (by omega) q (by simp) fun k hk=>Yp d i k q (by omega)
 have s1:=R'.store (P:=Vp.prog) (i:=i) (by omega) q
 have s2:=R1.store (P:=Vp.prog) (i:=j) (by simp;omega) p
 have l1:=R'.load (P:=Vp.prog) (i:=i) (by omega)
 have l2:=R'.load (P:=Vp.prog) (i:=j) (by omega)
 rw[hp]at l1;rw[hq]at l2;have z1:(Ag p).toArray.size=7:=rfl;have z2:(Ag q).toArray.size=7:=rfl;have zE:∀W:World,(Go.sizeOf 52).run Vp.prog W=.ok 7 W:=fun W=>(Vp.run_sizeOf _ W).trans (Tryz.sizeOf52 W)
 have zF:∀W:World,(Go.sizeOf 52).run Tryz.prog W=.ok 7 W:=Tryz.sizeOf52
 change Sem.run _ (storeCells _ (Ag q).toArray.toList 0) _=_ at s1
 change Sem.run _ (storeCells _ (Ag p).toArray.toList 0) _=_ at s2
 generalize Nx (Nx w.drew g i q) g j p=W2 at *;generalize Nx w.drew g i q=W1 at *;generalize (Ag p).toArray=cp at *;generalize (Ag q).toArray=cq at *;clear R1 R R' H H' hp hq hn hi hj;generalize swp d i j=d' at *;have HK:Hid ((7:Nat)=7):=rfl;generalize (7:Nat)=k at l1 l2 s1 s2 z1 z2 zE zF;have mixed:Vp.prog.follows .mixedOrders=true:=by kernel_rfl
 go_enter Vp.func167,Tryz.ntmps167
 go_big_region_o
 all_goals go_wp2
 go_end0
 exact⟨rfl,HF.out⟩
end
section
open Go.RowKit Go.Sort
attribute [local go_sem ↓] Go.wp_at_zero Go.wp_at_succ
theorem Km {P:Program}{name:String}{f:Nat}{t e:TypeId}(hu:P.underlying t=some (.pointer e))(h:((P.info? t).map fun i=>(i.methods.find? (·.name == name)).map fun m=>(m.path,m.func))=some (some (#[],some (f,true))))(k:Nat)(v:Value)(w:World) :
 Sem.run P (method (k+1) t v name) w=.ok (f,v) w:=by
 obtain⟨i,hi,h⟩:=Aif.1 h;obtain⟨m,hm,h⟩:=Aif.1 h;injection h with h1 h2
 have ht:∀w,(typeInfo t).run P w=.ok i w:=fun w=>by
  unfold typeInfo;rw[Akp,run_program]
  show(match P.info? t with|some i=>_|none=>_:Sem TypeInfo).run P w=_
  rw[hi]
  rfl
 have hut:∀w,(underlying t).run P w=.ok (.pointer e) w:=fun w=>Ako hu w
 unfold method;rw[Akp,ht];dsimp only[Result.andThen];rw[hm];dsimp only;rw[h1,h2];unfold follow;dsimp only;unfold receiverAt;simp only[Akp,Sem.run_pure,Ame,hut,Place.get]
section
variable {α : Type} [Inhabited α] (lt : α -> α -> Bool)
theorem A9a:∀(f g:Nat) (d:Array α) (j:Nat),j<f->j<g->Ot lt f d j=Ot lt g d j:=by
 intro f
 induction f with
 | zero=>intro g d j h;omega
 | succ f ih =>
   intro g d j h h';obtain⟨g,rfl⟩:∃k,g=k+1:=⟨g-1,by omega⟩
   unfold Ot
   by_cases h0:j=0
   ·rw[Aij h0,Aij h0]
   ·rw[Aid h0,Aid h0]
    by_cases hl:lt d[j]! d[(j-1) / 2]! = true
    ·rw[Aij hl,Aij hl]
     exact ih _ _ _ (by omega) (by omega)
    ·rw[Aid hl,Aid hl]
theorem A0a (d:Array α)(j:Nat)(h:j=0\/lt d[j]! d[(j-1) / 2]! = false):Ot lt (j+1) d j=d:=by
 unfold Ot
 rcases h with h|h
 ·rw[Aij h]
 ·by_cases h0:j=0
  ·rw[Aij h0]
  ·rw[Aid h0,Aid (by rw[h];simp)]
theorem Aeg (d:Array α)(j:Nat)(h:lt d[j+1]! d[j / 2]! = true):Ot lt (j+1+1) d (j+1)=Ot lt (j / 2+1) (swp d (j+1) (j / 2)) (j / 2):=by
 rw[Ot,Aid (by omega),Amk,Aij h]
 exact A9a lt _ _ _ _ (by omega) (by omega)
theorem Aan (f:Nat)(d:Array α)(j:Nat):(Ot lt f d j).size=d.size:=by
 induction f generalizing d j with
 | zero=>rfl
 | succ f ih =>
   unfold Ot
   split
   ·rfl
   ·split
    ·rw[ih,swp_size]
    ·rfl
end
theorem HpS.only {hb g n cap:Nat}{w w':World}(h:HpS hb g n cap w)(k:By g w w')(hne:hb≠g):HpS hb g n cap w':=by
 have hl:=Aix w _ h.c0;have e:=k.block hb hl hne
 refine⟨?_,?_⟩
 ·have:=h.c0;unfold World.cell? at this ⊢;rw[e]
  exact this
 ·have:=h.c1;unfold World.cell? at this ⊢;rw[e]
  exact this
theorem A11 (v:Value)(w:World):Sem.run Vp.prog (method (Tryz.prog.types.size+100) 79 v "Less") w=.ok (164,v) w:=Km (Vp.Di Tryz.underlying79) (by kernel_rfl) (Tryz.prog.types.size+99) v w
theorem Sb (v:Value)(w:World):Sem.run Vp.prog (method (Tryz.prog.types.size+100) 79 v "Swap") w=.ok (167,v) w:=Km (Vp.Di Tryz.underlying79) (by kernel_rfl) (Tryz.prog.types.size+99) v w
theorem A57 (v:Value)(w:World):Sem.run Vp.prog (method (Tryz.prog.types.size+100) 79 v "Len") w=.ok (38,v) w:=Km (Vp.Di Tryz.underlying79) (by kernel_rfl) (Tryz.prog.types.size+99) v w
theorem A9s (v:Value)(w:World):Sem.run Vp.prog (method (Tryz.prog.types.size+100) 79 v "Push") w=.ok (166,v) w:=Km (Vp.Di Tryz.underlying79) (by kernel_rfl) (Tryz.prog.types.size+99) v w
theorem Acf (v:Value)(w:World):Sem.run Vp.prog (method (Tryz.prog.types.size+100) 79 v "Pop") w=.ok (165,v) w:=Km (Vp.Di Tryz.underlying79) (by kernel_rfl) (Tryz.prog.types.size+99) v w
theorem Agz (hb g n cap j:Nat)(d:Array Ad)(hn:d.size=n)(hj:j<n)(hn2:n<=1000)(w:World)(hne:hb≠g)(H:HpS hb g n cap w)(R:Dm g cap d w) :
 Calls Vp.prog 60 #[.iface 79 (.pointer (some ⟨hb,0,none⟩)),.int .i64 j] w fun e w'=>e=.returned (.tuple #[])/\By g w w'/\Dm g cap (Ot E0 (j+1) d j) w':=by
 have HH:=Ai1 H;have HR:=Ai1 R;have HN:=Ai1 hn;have mL:=A11 (.pointer (some ⟨hb,0,none⟩));have mS:=Sb (.pointer (some ⟨hb,0,none⟩));clear H R hn
 go_enter Vp.func60,Tryz.ntmps60
 go_wp2
 go_loopw [1] (fun vj wr=>∃(k:Nat) (d':Array Ad),k<=j/\vj=.int .i64 k/\Hid (d'.size=n)/\Hid (By g w wr)/\Hid (Dm g cap d' wr)/\Hid (Ot E0 (k+1) d' k=Ot E0 (j+1) d j)) (fun vj _=>(intOf vj).toNat)
 case atStart=>exact⟨j,d,Ai3 _,rfl,HN.out,By.refl _ _,HR.out,rfl⟩
 case round =>
  obtain⟨k,d',hk,rfl,HS,HO,HRW,HE⟩:=hrel;have HSS:=Ai1 (HH.out.only HO.out hne)
  rcases Ajr k with rfl|hk0
  ·go_wp2
   go_end0
   exact⟨rfl,HO.out,by rw[<-HE.out,A0a E0 d' 0 (.inl rfl)];exact HRW.out⟩
  ·obtain⟨m,rfl⟩:∃m,k=m+1:=⟨k-1,by omega⟩
   obtain⟨p,hp⟩:∃p,m / 2=p:=⟨_,rfl⟩;have hpm:p<=m:=by omega
   have dv:Int.tdiv (m:Int) 2=(p:Int):=by rw[Ak8 (by omega)];omega
   have wr1:IntKind.i64.wrap (m:Int)=(m:Int):=Ajh _ (by omega)
   have wr2:IntKind.i64.wrap (p:Int)=(p:Int):=Ajh _ (by omega)
   have ne1:((p:Int) ==(m:Int)+1)=false:=by simp;omega
   have CL:=fun W (H:HpS hb g n cap W) (R:Dm g cap d' W)=>Y8 hb g n cap (m+1) p d' HS.out (by omega) (by omega) W H R
   cases hl:E0 d'[m+1]! d'[p]! with
   | false =>
     rw[hl]at CL;replace CL:=Ai1 (CL wr HSS.out HRW.out);have HST:Hid (Ot E0 (m+1+1) d' (m+1)=d'):=A0a E0 d' (m+1) (.inr (by rw[Amk,hp];exact hl))
     clear hl hp hk hn2 hj
     go_wp2_with fail
     refine CL.out.mono ?_
     rintro e w2 ⟨rfl,hb2⟩
     go_wp2
     go_end0
     exact⟨rfl,HO.out.trans (By.Aw hb2),by rw[<-HE.out,HST.out];exact HRW.out.step hb2⟩
   | true =>
     have HGO:Hid (Ot E0 (p+1) (swp d' (m+1) p) p=Ot E0 (j+1) d j):=by
      have:=Aeg E0 d' m (by rw[hp];exact hl)
      rw[hp]at this
      exact this.symm.trans HE.out
     rw[hl]at CL;replace CL:=Ai1 (CL wr HSS.out HRW.out)
     have CS:Hid (∀W,Below wr.heap.size wr W->Calls Vp.prog 167 #[.pointer (some ⟨hb,0,none⟩),.int .i64 p,.int .i64 (m+1:Nat)] W fun e w'=>e=.returned (.tuple #[])/\By g W w'/\Dm g cap (swp d' (m+1) p) w'):=fun W hbw=>by
      have:=Qz hb g n cap p (m+1) d' HS.out (by omega) (by omega) W (HSS.out.step hbw) (HRW.out.step hbw)
      rwa [Tk d' (by have:=HS.out;omega) (by have:=HS.out;omega)]at this
     have HSZ:Hid ((swp d' (m+1) p).size=n):=(swp_size _ _ _).trans HS.out;clear hl hp
     go_wp2_with fail
     refine CL.out.mono ?_
     rintro e w2 ⟨rfl,hb2⟩;have CS2:=Ai1 (CS.out w2 hb2)
     go_wp2_with fail
     refine CS2.out.mono ?_
     rintro e w3 ⟨rfl,ho3,hr3⟩;have HO3:=Ai1 ((HO.out.trans (By.Aw hb2)).trans ho3);have HR3:=Ai1 hr3
     go_wp2
     go_roundw
     case rel=>exact⟨p,swp d' (m+1) p,by omega,rfl,HSZ.out,HO3.out,HR3.out,HGO.out⟩
     case measure=>simp[intOf];omega
end
end Go.Proofs.YtlfleicchbgcmaaGreat
