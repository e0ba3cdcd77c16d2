import Derived.Test.YtjaehldnlamgkaaGreatDoorXe23
import Derived.StillTailTactics
import Derived.Test.YtjaehldnlamgkaaGreatDoorXe0
import Derived.Test.YtjaehldnlamgkaaGreatDoorXeK
set_option linter.all false
set_option maxHeartbeats 16000000
set_option maxRecDepth 100000
namespace Go.Proofs.YtjaehldnlamgkaaGreatDoor
section
open Go.RowKit
theorem Od (b:UInt8)(W:World)(k:Int)(hk:k=b.toNat):(convert 22 9 (.slice (some ⟨W.heap.size,0,none⟩) 1 1)).run Vp.prog (W.alloc (.cells #[.int .u8 k] 5))=.ok (.string ⟨#[b]⟩) (W.alloc (.cells #[.int .u8 k] 5)):=by
 have B:=A7.new W #[.int .u8 k] 5;subst hk
 exact Aqz _ _ _ 5 ⟨W.heap.size,0,none⟩ 1 [b] (Vp.Bl Tryz.underlying22) (Vp.Bl Tryz.underlying5) (Vp.Bl Tryz.underlying9) (fun j hj=>by
  obtain rfl:j=0:=by simp at hj;omega
  exact B.cell 0 _ rfl)
theorem A78 (b:UInt8)(W:World)(g:Nat)(k:Int)(hk:k=b.toNat)(hc:W.cell? ⟨g,0,none⟩=some (.int .u8 k)):(convert 22 9 (.slice (some ⟨g,0,none⟩) 1 1)).run Vp.prog W=.ok (.string ⟨#[b]⟩) W:=by
 subst hk
 exact Aqz _ _ _ 5 ⟨g,0,none⟩ 1 [b] (Vp.Bl Tryz.underlying22) (Vp.Bl Tryz.underlying5) (Vp.Bl Tryz.underlying9) (fun j hj=>by
  obtain rfl:j=0:=by simp at hj;omega
  exact hc)
theorem A0b (n:Nat)(h:¬n<10):Lib.decDigits n=Lib.decDigits (n / 10)++[UInt8.ofNat (48+n % 10)]:=by
 conv=>lhs;rw[Lib.decDigits,dif_neg h]
theorem Ju (u:Nat)(h:u<=99999):(Lib.decDigits u).length<=20:=by
 have:∀(f u:Nat),u<10^f ->(Lib.decDigits u).length<=f+1:=by
  intro f
  induction f with
  | zero=>intro u hu;rw[Lib.decDigits_one (by omega)];simp
  | succ f ih =>
    intro u hu
    by_cases hu9:u<10
    ·rw[Lib.decDigits_one hu9];simp
    ·rw[A0b u hu9,Amy];have:=ih (u / 10) (by rw[Ap9]at hu;omega)
     simp
     exact this
 exact Am1 (this 5 u (by omega)) (by decide)
theorem A3o (n:Nat)(hn:n<10)(w:World):Calls Vp.prog 10 #[.int .i64 n] w fun e w'=>e=.returned (.string ⟨(Lib.decDigits n).toArray⟩)/\Below w.heap.size w w':=by
 have HB:=Aly (fun k=>(Amc w.heap.size w).alloc (Am0 _) (.cells #[.int .u8 k] 5))
 rw[Lib.decDigits_one hn];obtain⟨b,hb⟩:∃b:UInt8,UInt8.ofNat (48+n)=b:=⟨_,rfl⟩;obtain⟨k,hk⟩:∃k:Int,(48 +(n:Int))=k:=⟨_,rfl⟩;have hkb:k=b.toNat:=by rw[<-hb,<-hk];simp;omega
 rw[hb];clear hb;have h:=Od b w k hkb;have d2:decide ((n:Int)<0)=false:=by simp
 have d3:decide ((n:Int)<10)=true:=by simp;omega
 have k3:IntKind.u8.wrap k=k:=by
  rw[<-hk]
  rcases(by omega:n=0\/n=1\/n=2\/n=3\/n=4\/n=5\/n=6\/n=7\/n=8\/n=9)with rfl|rfl|rfl|rfl|rfl|rfl|rfl|rfl|rfl|rfl<;>decide
 clear hkb
 go_enter Vp.func10,Tryz.ntmps10
 go_wp2_with fail
 go_ret
 exact⟨rfl,HB.out _⟩
theorem A0c (n q r:Nat)(D:List UInt8)(hD:D.length<=20)(hn:n=10*q+r)(hr:r<10)(hq1:1<=q)(hq:q<=99999)(HL:Hid (∀w,Calls Vp.prog 10 #[.int .i64 q] w fun e w'=>e=.returned (.string ⟨D.toArray⟩)/\Below w.heap.size w w'))(w:World) :
 Calls Vp.prog 10 #[.int .i64 n] w fun e w'=>e=.returned (.string ⟨(D++[UInt8.ofNat (48+r)]).toArray⟩)/\Below w.heap.size w w':=by
 obtain⟨b,hb⟩:∃b:UInt8,UInt8.ofNat (48+r)=b:=⟨_,rfl⟩;obtain⟨k,hk⟩:∃k:Int,(48 +(r:Int))=k:=⟨_,rfl⟩;have hkb:k=b.toNat:=by rw[<-hb,<-hk];simp;omega
 rw[hb];clear hb
 have HJ:∀W:World,(Op.stringOp .add ⟨D.toArray⟩ ⟨#[b]⟩).run Vp.prog W=.ok (.string ⟨(D++[b]).toArray⟩) W:=fun W=>by
  rw[run_string_add_sum W _ _ (by show D.toArray.size+1<=_;simp;omega)]
  congr 2
 generalize (⟨(D++[b]).toArray⟩:ByteArray)=F at *;generalize (⟨D.toArray⟩:ByteArray)=D1 at *;have HC:Hid (∀W g,W.cell? ⟨g,0,none⟩=some (.int .u8 k) ->(convert 22 9 (.slice (some ⟨g,0,none⟩) 1 1)).run Vp.prog W=.ok (.string ⟨#[b]⟩) W):=fun W g h=>A78 b W g k hkb h
 have h1:=Od b w k hkb
 have HC2:Hid (∀W5,Below (w.alloc (.cells #[.int .u8 k] 5)).drew.heap.size (w.alloc (.cells #[.int .u8 k] 5)).drew W5 ->(convert 22 9 (.slice (some ⟨w.heap.size,0,none⟩) 1 1)).run Vp.prog W5=.ok (.string ⟨#[b]⟩) W5):=fun W5 h =>
  HC.out W5 _ ((((A7.new w #[.int .u8 k] 5).step ((Bp.refl _).drew.below _)).step h).cell 0 _ rfl)
 have HE:Hid (∀W5,Below w.drew.heap.size w.drew W5->Below w.heap.size w (W5.alloc (.cells #[.int .u8 k] 5))):=fun W5 h=>((Amc _ _).drew.trans h).alloc h.size _
 have HE2:Hid (∀W5,Below (w.alloc (.cells #[.int .u8 k] 5)).drew.heap.size (w.alloc (.cells #[.int .u8 k] 5)).drew W5->Below w.heap.size w W5):=fun W5 h=>(((Amc w.heap.size w).alloc (Am0 _) _).drew).trans (h.mono (by show w.heap.size <=(w.alloc (.cells #[.int .u8 k] 5)).heap.size;simp))
 have h1d:=HC2.out _ (Amc _ _);clear HC;have hnn:(n:Int)=10*q+r:=by omega
 have d2:decide ((n:Int)<0)=false:=by simp
 have d3:decide ((n:Int)<10)=false:=by simp;omega
 have t1:(n:Int).tdiv 10=q:=by rw[Anx (by omega)];omega
 have t2:(n:Int).tmod 10=r:=by rw[Int.tmod_eq_emod_of_nonneg (by omega)];omega
 clear hn hnn hD
 go_enter Vp.func10,Tryz.ntmps10
 go_upto_region 5 with fail
 have k1:IntKind.i64.wrap q=q:=IntWalk.i64_in _ (by omega)
 have k2:IntKind.i64.wrap (48 +(r:Int))=k:=by rw[hk];exact IntWalk.i64_in _ (by omega)
 have k4:IntKind.i64.wrap r=r:=IntWalk.i64_in _ (by omega)
 have k5:IntKind.i64.wrap k=k:=IntWalk.i64_in _ (by omega)
 have k3:IntKind.u8.wrap k=k:=by
  rw[<-hk]
  rcases(by omega:r=0\/r=1\/r=2\/r=3\/r=4\/r=5\/r=6\/r=7\/r=8\/r=9)with rfl|rfl|rfl|rfl|rfl|rfl|rfl|rfl|rfl|rfl<;>decide
 have HKB:=Aly hkb;clear hkb
 go_region_with (go_at_call 10;with_reducible refine(HL.out _).mono ?_;rintro e w5 ⟨rfl,hb⟩;have h2:=Od b w5 k HKB.out;(first |(have h3:=HC2.out _ hb)|skip))
 all_goals
  go_wp2
  go_ret
  first
   | exact⟨rfl,HE.out _ hb⟩
   | exact⟨rfl,HE2.out _ hb⟩
theorem Rv:∀(n:Nat),n<=99999->∀w:World,Calls Vp.prog 10 #[.int .i64 n] w fun e w'=>e=.returned (.string ⟨(Lib.decDigits n).toArray⟩)/\Below w.heap.size w w':=by
 intro n
 induction n using Nat.strongRecOn with
 | _ n ih =>
   intro hn w
   by_cases h:n<10
   ·exact A3o n h w
   ·rw[A0b n h]
    exact A0c n (n / 10) (n % 10) _ (Ju _ (by omega)) (by omega) (by omega) (by omega) (by omega) (Aly fun w=>ih (n / 10) (by omega) (by omega) w) w
theorem I1 (n:Int)(h0:-99999<=n)(h1:n<=99999)(w:World):Calls Vp.prog 10 #[.int .i64 n] w fun e w'=>e=.returned (.string ⟨(Lib.itoa n).toArray⟩)/\Below w.heap.size w w':=by
 unfold Lib.itoa
 by_cases hn:n<0
 ·rw[Amo hn];have HL:=Aly (Rv n.natAbs (by omega))
  have hlen:=Ju n.natAbs (by omega)
  have e0:((n.natAbs:Nat):Int)=-n:=by omega
  rw[e0]at HL
  have HJ:∀W:World,(Op.stringOp .add ⟨#[45]⟩ ⟨(Lib.decDigits n.natAbs).toArray⟩).run Vp.prog W=.ok (.string ⟨(45 :: Lib.decDigits n.natAbs).toArray⟩) W:=fun W=>by
   rw[run_string_add_sum W _ _ (by show 1 +(Lib.decDigits n.natAbs).toArray.size<=_;simp;omega)]
   congr 2
  generalize (⟨(45 :: Lib.decDigits n.natAbs).toArray⟩:ByteArray)=F at *;generalize (⟨(Lib.decDigits n.natAbs).toArray⟩:ByteArray)=D1 at *;clear e0 hlen
  go_enter Vp.func10,Tryz.ntmps10
  go_wp2_with fail
  with_reducible refine(HL.out _).mono ?_
  rintro e w1 ⟨rfl,hb⟩;have HB:=Aly hb;clear hb
  go_wp2
  go_ret
  exact⟨rfl,HB.out⟩
 ·rw[Amd hn];have:=Rv n.toNat (by omega) w
  rwa [show((n.toNat:Nat):Int)=n by omega]at this
end
section
open Go.RowKit
attribute [local go_sem ↓] Go.wp_at_zero Go.wp_at_succ
attribute [local go_sem] Av Am
theorem O9.apart {B b sb:Nat}{l:List UInt8}{W W':World}(h:O9 B b l W)(hg:W.grownBy W' (some sb))(hs:sb<B):O9 B b l W':=by
 have one:∀p,Lib.BuilderAtF 67 5 B b p (Lib.byteCells l) W->Lib.BuilderAtF 67 5 B b p (Lib.byteCells l) W':=by
  rintro p ⟨hB,v,hb,⟨hl,hrow⟩,hne⟩
  refine⟨hB,v,(hg.block _ (Alx.1 hb).1 (fun e=>by injection e with e;omega)).trans hb,⟨hl,?_⟩,hne⟩
  rcases hrow with h |⟨g,cap,cur,fz,h1,h2,h3,h4⟩
  ·exact .inl h
  ·exact .inr ⟨g,cap,cur,fz,h1,h2,(hg.block _ (Alx.1 h3).1 (fun e=>by injection e with e;omega)).trans h3,h4⟩
 exact h.elim (fun x=>.inl (one _ x)) (fun x=>.inr (one _ x))
theorem A1m (q:Nat)(h:q<=99999):(Ae [(q:Int)]).length<=20:=by
 unfold Ae;rw[Apw,List.map_nil,Lib.join_one];unfold Lib.itoa;rw[Amd (by omega),Anc]
 exact Ju q h
def Au (L:List (List UInt8)):List UInt8:=(L.map (·++[10])).flatten
theorem A0y:∀(l r:List UInt8),10 ∉ l->Lib.indexByte (l++10 :: r) 10=l.length
 | [],r,_=>by simp[Lib.indexByte]
 | c :: l,r,h=>by
   have hc:¬c=10:=fun e=>h (by simp[e])
   have ih:=A0y l r (fun hx=>h (by simp[hx]))
   show Lib.indexByte (c ::(l++10 :: r)) 10=_
   unfold Lib.indexByte;rw[ih];simp[hc]
theorem A7f (l:List UInt8)(L:List (List UInt8))(h:10 ∉ l):Lib.cut (Au (l :: L)) [10]=(l,Au L,true):=by
 have e:Au (l :: L)=l++10 :: Au L:=by simp[Au]
 rw[e];unfold Lib.cut;rw[Lib.index_one,A0y l _ h,Amo (by omega),Anc]
 simp
structure A5n (x y:Nat)(d z:Int)(a1:Option Addr)(n1 c1:Nat)(a:Option Addr)(ms:List Int)(c:Nat)(W:World):Prop where
 sl:Sl W a (ms.map By)
 bd:∀q∈ms,-1<=q/\q<=1
 len:ms.length<=64
def U8 (x y:Nat)(d z:Int)(a1:Option Addr)(n1 c1:Nat)(a:Option Addr)(ms:List Int)(c:Nat):List Value:=[.complex .f32 x y,.int .i64 d,.int .i64 z,.slice a1 n1 c1,.slice a ms.length c]
structure Ajc (sb B n:Nat)(S:Nat->World->Prop)(line out:Nat->List UInt8):Prop where
 Acs:∀k W W',S k W->Below B W W'->S k W'
 ans:∀k,k<n->∀W,B<=W.heap.size->S k W->Calls Vp.prog 32 #[.pointer (some ⟨sb,0,none⟩),.string ⟨(line k).toArray⟩] W fun e W'=>e=.returned (.string ⟨(out k).toArray⟩)/\W.grownBy W' (some sb)/\S (k+1) W'
 fin:∀W,S n W->∃(a:Option Addr) (c:Nat) (ms:List Int),W.cell? ⟨sb,8,none⟩=some (.slice a ms.length c)/\Sl W a (ms.map By) /\(∀q∈ms,-1<=q/\q<=1)/\ms.length<=64/\Lib.TabIs Vp.prog W "internal/strconv.uint64pow10" .u64 Lib.pow10Tab
theorem Agw (W:World)(sb:Nat)(v0 v1 v2 v3 v4:Value):W.grownBy (((((W.setCell ⟨sb,4,none⟩ v0).setCell ⟨sb,5,none⟩ v1).setCell ⟨sb,6,none⟩ v2).setCell ⟨sb,7,none⟩ v3).setCell ⟨sb,8,none⟩ v4) (some sb):=by
 have h:∀(W:World) (j:Nat) (v:Value),W.grownBy (W.setCell ⟨sb,j,none⟩ v) (some sb):=fun W j v=>F7 W ⟨sb,j,none⟩ v
 have h1:=h W 4 v0;have h2:=h1.trans (h (W.setCell ⟨sb,4,none⟩ v0) 5 v1);have h3:=h2.trans (h ((W.setCell ⟨sb,4,none⟩ v0).setCell ⟨sb,5,none⟩ v1) 6 v2);have h4:=h3.trans (h (((W.setCell ⟨sb,4,none⟩ v0).setCell ⟨sb,5,none⟩ v1).setCell ⟨sb,6,none⟩ v2) 7 v3)
 exact h4.trans (h ((((W.setCell ⟨sb,4,none⟩ v0).setCell ⟨sb,5,none⟩ v1).setCell ⟨sb,6,none⟩ v2).setCell ⟨sb,7,none⟩ v3) 8 v4)
theorem A8o {sb:Nat}{w W:World}(h:A7 w sb (G5 0 0 0 50 [.complex .f32 0 0,.int .i64 0,.int .i64 0,.slice none 0 0,.slice none 0 0]) 64 W)(hb:w.heap.size<=sb)(v0 v1 v2 v3 v4:Value) :
 A7 w sb (G5 0 0 0 50 [v0,v1,v2,v3,v4]) 64 (((((W.setCell ⟨sb,4,none⟩ v0).setCell ⟨sb,5,none⟩ v1).setCell ⟨sb,6,none⟩ v2).setCell ⟨sb,7,none⟩ v3).setCell ⟨sb,8,none⟩ v4) :=
 ((((h.set hb 4 v0).set hb 5 v1).set hb 6 v2).set hb 7 v3).set hb 8 v4
theorem A26 {W W':World}{sb:Nat}{a:Option Addr}{xs:List Value}(h:Sl W a xs)(hg:W.grownBy W' (some sb))(hne:∀p,a=some p->p.block≠sb):Sl W' a xs:=by
 rcases h with h |⟨b,off,rfl,h⟩
 ·exact .inl h
 ·exact .inr ⟨b,off,rfl,fun i v hv=>hg.cell (h i v hv) (fun e=>hne _ rfl (Aml e))⟩
def Fp (out:Nat->List UInt8):Nat->List UInt8
 | 0=>[]
 | k+1=>Fp out k++out k++[10]
theorem Tf {out:Nat->List UInt8}(h:∀k,(out k).length<=1000):∀k,(Fp out k).length<=k*1001
 | 0=>Am0 _
 | k+1=>by
   have:=Tf h k;have:=h k;simp only[Fp,Amy,Ann,Aou]
   omega
theorem Aae:Lib.cut [] [10]=([],[],false):=by decide
theorem A7h (L:List (List UInt8))(k:Nat)(h:k<L.length):Au (L.drop k)=Au (L[k]! :: L.drop (k+1)):=by
 rw[List.drop_eq_getElem_cons h,getElem!_pos L k h]
theorem Abc (L:List (List UInt8))(k:Nat):(Au (L.drop k)).length <=(Au L).length:=by
 unfold Au
 conv=>rhs;rw[<-List.take_append_drop k L,Aok,List.flatten_append,Amy]
 exact Nat.le_add_left _ _
theorem Ady (L:List (List UInt8))(out:Nat->List UInt8)(w:World)(h600:(Au L).length<=600)(hno:∀l∈L,10 ∉ l)(ho:∀k,(out k).length<=1000)
 (hTM:∀W,Below w.heap.size w W->Calls Vp.prog 17 #[.complex .f32 3221225472 3221225472,.int .i64 0,.int .i64 4,.int .i64 50] W fun e W'=>Below W.heap.size W W'/\∃x y d z a1 n1 c1 a ms c,e=.returned (.tuple #[.agg (U8 x y d z a1 n1 c1 a ms c).toArray,.bool true])/\A5n x y d z a1 n1 c1 a ms c W'/\∀p,a=some p->W.heap.size<=p.block)
 (hn:L.length<=600)
 (hstart:∀W x y d z a1 n1 c1 a ms c,Below w.heap.size w W->SW w.heap.size 0 0 0 50 (U8 x y d z a1 n1 c1 a ms c) W->A5n x y d z a1 n1 c1 a ms c W ->(∀p,a=some p->w.heap.size<p.block)->∃S,Ajc w.heap.size W.heap.size L.length S (fun k=>L[k]!) out/\S 0 W) :
 Calls Vp.prog 11 #[.string ⟨(Au L).toArray⟩] w fun e w'=>(∃q:Nat,q<=64/\e=.returned (.string ⟨(Fp out L.length++[111,112,101,110,32]++Ae [(q:Int)]++[10]).toArray⟩))/\Below w.heap.size w w':=by
 have HX0:=Aly (A7.new w (G5 0 0 0 50 [.complex .f32 0 0,.int .i64 0,.int .i64 0,.slice none 0 0,.slice none 0 0]) 64);have HTM:=Aly (hTM _ HX0.out.old);have HST:=Aly hstart;clear hTM hstart
 go_enter Vp.func11,Tryz.ntmps11
 go_wp2_with fail
 refine HTM.out.mono ?_
 rintro e W1 ⟨hb1,x,y,d,z,a1,n1,c1,a,ms,c,rfl,hF,hfar⟩;have HX1:=HX0.out.step hb1;have d4:=HX1.cell 4 (.complex .f32 0 0) rfl;have d5:=HX1.cell 5 (.int .i64 0) rfl;have d6:=HX1.cell 6 (.int .i64 0) rfl;have d7:=HX1.cell 7 (.slice none 0 0) rfl;have d8:=HX1.cell 8 (.slice none 0 0) rfl;have f4:=HX1.frozen 4;have f5:=HX1.frozen 5;have f6:=HX1.frozen 6;have f7:=HX1.frozen 7;have f8:=HX1.frozen 8;have HX2:=Aly (A8o HX1 (Am0 _) (.complex .f32 x y) (.int .i64 d) (.int .i64 z) (.slice a1 n1 c1) (.slice a ms.length c));have hg2:=Agw W1 w.heap.size (.complex .f32 x y) (.int .i64 d) (.int .i64 z) (.slice a1 n1 c1) (.slice a ms.length c);have HFAR:Hid (∀p,a=some p->w.heap.size<p.block):=fun p hp=>by have h:=hfar p hp;rw[An5]at h;omega
 have hsl2:=A26 hF.sl hg2 (fun p hp e=>by have h:=hfar p hp;rw[An5]at h;omega)
 have HF:=Aly (And.intro hsl2 (And.intro hF.bd hF.len));clear hb1 HX1 HX0 HTM hF hg2 hfar hsl2;unfold U8
 go_wp2_with fail
 clear d4 d5 d6 d7 d8 f4 f5 f6 f7 f8;have hz:(((((W1.setCell ⟨w.heap.size,4,none⟩ (.complex .f32 x y)).setCell ⟨w.heap.size,5,none⟩ (.int .i64 d)).setCell ⟨w.heap.size,6,none⟩ (.int .i64 z)).setCell ⟨w.heap.size,7,none⟩ (.slice a1 n1 c1)).setCell ⟨w.heap.size,8,none⟩ (.slice a ms.length c)).heap.size=W1.heap.size:=by simp[World.setCell]
 generalize ((((W1.setCell ⟨w.heap.size,4,none⟩ (.complex .f32 x y)).setCell ⟨w.heap.size,5,none⟩ (.int .i64 d)).setCell ⟨w.heap.size,6,none⟩ (.int .i64 z)).setCell ⟨w.heap.size,7,none⟩ (.slice a1 n1 c1)).setCell ⟨w.heap.size,8,none⟩ (.slice a ms.length c)=W2 at *;obtain⟨S,hSe,hS0⟩:=HST.out W2 x y d z a1 n1 c1 a ms c HX2.out.old ⟨HX2.out.blk⟩ ⟨HF.out.1,HF.out.2.1,HF.out.2.2⟩ HFAR.out;have hsl:w.heap.size<W2.heap.size:=HX2.out.lt;have HO2:=Aly HX2.out.old;have HB2:=Aly (O9.new W2);have HS2:=Aly (hSe.Acs 0 _ _ hS0 ((Amc _ _).alloc (Am0 _) (.cells #[.pointer none,.slice none 0 0] 67)));have HSE:=Aly hSe;have HO3:=Aly (HO2.out.alloc HO2.out.size (.cells #[.pointer none,.slice none 0 0] 67));have hB3:W2.heap.size <=(W2.alloc (.cells #[.pointer none,.slice none 0 0] 67)).heap.size:=by simp
 clear hSe hS0 HX2 HF HST HO2 HFAR;generalize W2.alloc (.cells #[.pointer none,.slice none 0 0] 67)=W3 at *;generalize W2.heap.size=ob at *;rw[<-hz];clear hz
 go_loopw [0] (fun t wr=>∃k:Nat,k<=L.length/\t=.string ⟨(Au (L.drop k)).toArray⟩/\Hid (O9 ob ob (Fp out k) wr)/\Hid (S k wr)/\Hid (Below w.heap.size w wr)/\ob<=wr.heap.size) (fun t _=>match t with|.string s=>s.size|_=>0)
 case atStart=>exact⟨0,Amu _,rfl,HB2,HS2,HO3,hB3⟩
 case round =>
  obtain⟨k,hk,rfl,HB,HS,HO,hob⟩:=hrel;have hsz:=Abc L k
  by_cases hkn:k<L.length
  ·have hdl:=A7h L k hkn;have hmem:L[k]!∈L:=by rw[getElem!_pos L k hkn];exact List.getElem_mem _
   have hcut:Lib.cut (Au (L.drop k)) [10]=(L[k]!,Au (L.drop (k+1)),true):=by rw[hdl];exact A7f _ _ (hno _ hmem)
   have HC:Hid (∀W,Calls Vp.prog 30 #[.string ⟨(Au (L.drop k)).toArray⟩,.string ⟨#[10]⟩] W fun e w'=>e=.returned (.tuple #[.string ⟨(L[k]!).toArray⟩,.string ⟨(Au (L.drop (k+1))).toArray⟩,.bool true])/\Below W.heap.size W w'):=fun W=>by
    have h:=A3n ⟨(Au (L.drop k)).toArray⟩ 10 W (by simp[ByteArray.size];omega)
    rw[show(⟨(Au (L.drop k)).toArray⟩:ByteArray).data.toList=Au (L.drop k) by simp,hcut]at h
    exact h.mono (by rintro e w' ⟨rfl,m,rfl⟩;exact⟨rfl,below_drewN (Amc _ _) m⟩)
   have hmu:(Au (L.drop (k+1))).length <(Au (L.drop k)).length:=by
    rw[hdl];simp[Au]
    omega
   have hlo:=Tf ho k;have hok:=ho k;have HANS:Hid (∀W,ob<=W.heap.size->S k W->Calls Vp.prog 32 #[.pointer (some ⟨w.heap.size,0,none⟩),.string ⟨(L[k]!).toArray⟩] W fun e W'=>e=.returned (.string ⟨(out k).toArray⟩)/\W.grownBy W' (some w.heap.size)/\S (k+1) W'):=HSE.out.ans k hkn
   clear hdl hmem hcut;generalize L[k]! = lk at *;generalize hrest:Au (L.drop (k+1))=rs at *;generalize Au (L.drop k)=ts at *;generalize hok':out k=ok at *
   go_wp2_with fail
   refine(HC.out _).mono ?_
   rintro e w1 ⟨rfl,hb1⟩;have hob1:ob<=w1.heap.size:=Am1 hob hb1.size;have hS1:=HSE.out.Acs k _ _ HS.out (hb1.mono hob);have HA:=Aly (HANS.out w1 hob1 hS1);have HB1:=Aly (HB.out.own (Cg hb1 none) (fun r hr=>by cases hr))
   have HO1:=Aly (HO.out.trans (hb1.mono HO.out.size));clear hb1 hS1 HC HB HO HS HANS
   go_wp2_with fail
   refine HA.out.mono ?_
   rintro e w2 ⟨rfl,hg2,hS2⟩;have HB2:=Aly (HB1.out.apart hg2 hsl);have HO2:=Aly (HO1.out.grown hg2 HO1.out.size (fun q hq=>by injection hq with hq;omega))
   have hob2:ob<=w2.heap.size:=Am1 hob1 hg2.size;have HS2':=Aly hS2;clear hg2 hS2 HA HB1 HO1
   have HWS:Hid (Calls Vp.prog 31 #[.pointer (some ⟨ob,0,none⟩),.string ⟨(ok).toArray⟩] w2 fun e w'=>e=.returned (.tuple #[.int .i64 ok.length,.nilIface])/\O9 ob ob (Fp out k++ok) w'/\Ez ob ob w2 w'):=by
    have h:=Fu ob ob (Fp out k) ⟨(ok).toArray⟩ w2 HB2.out (by simp[ByteArray.size];omega) hob2
    rw[show(⟨(ok).toArray⟩:ByteArray).data.toList=ok by simp,show(⟨(ok).toArray⟩:ByteArray).size=ok.length by simp[ByteArray.size]]at h
    exact h
   go_wp2_with fail
   refine HWS.out.mono ?_
   rintro e w3 ⟨rfl,hB3,hk3⟩;have hob3:ob<=w3.heap.size:=Am1 hob2 hk3.below.size;have HWB:Hid (Calls Vp.prog 33 #[.pointer (some ⟨ob,0,none⟩),.int .u8 10] w3 fun e w'=>e=.returned .nilIface/\O9 ob ob (Fp out k++ok++[10]) w'/\Ez ob ob w3 w'):=Lg ob ob (Fp out k++ok) 10 w3 hB3 (by rw[Amy];omega) hob3
   have HK3:=Aly hk3;clear hB3 hk3 HWS
   go_wp2_with fail
   refine HWB.out.mono ?_
   rintro e w4 ⟨rfl,hB4,hk4⟩;have hK4:=HK3.out.below.trans hk4.below;have HS4:=Aly (HSE.out.Acs _ _ _ HS2'.out hK4);have HO4:=Aly (HO2.out.trans (hK4.mono (by omega)))
   have hob4:ob<=w4.heap.size:=Am1 hob3 hk4.below.size;have HB4:Hid (O9 ob ob (Fp out (k+1)) w4):=by show O9 _ _ (Fp out k++out k++[10]) _;rw[hok'];exact hB4
   clear hB4 hk4 hK4 HWB
   go_wp2
   exact⟨⟨k+1,by omega,by rw[hrest],HB4,HS4,HO4,hob4⟩,by simpa [ByteArray.size]using hmu⟩
  ·have hke:k=L.length:=by omega
   have hdn:Au (L.drop k)=[]:=by rw[List.drop_of_length_le (by omega)];rfl
   rw[hdn]
   have HC:Hid (∀W,Calls Vp.prog 30 #[.string ⟨#[]⟩,.string ⟨#[10]⟩] W fun e w'=>e=.returned (.tuple #[.string ⟨#[]⟩,.string ⟨#[]⟩,.bool false])/\Below W.heap.size W w'):=fun W=>by
    have h:=A3n ⟨#[]⟩ 10 W (by decide)
    rw[show(⟨#[]⟩:ByteArray).data.toList=[]from rfl,Aae]at h
    exact h.mono (by rintro e w' ⟨rfl,m,rfl⟩;exact⟨rfl,below_drewN (Amc _ _) m⟩)
   go_wp2_with fail
   with_reducible refine(HC.out _).mono ?_
   rintro e w1 ⟨rfl,hb1⟩;have hob1:ob<=w1.heap.size:=Am1 hob hb1.size;have HS1:=Aly (HSE.out.Acs _ _ _ HS.out (hb1.mono hob));have HB1:=Aly (HB.out.own (Cg hb1 none) (fun r hr=>by cases hr))
   have HO1:=Aly (HO.out.trans (hb1.mono HO.out.size));have hlo:=Tf ho k;clear hb1 HC HB HO HS
   have HWS:Hid (Calls Vp.prog 31 #[.pointer (some ⟨ob,0,none⟩),.string ⟨#[111,112,101,110,32]⟩] w1 fun e w'=>e=.returned (.tuple #[.int .i64 5,.nilIface])/\O9 ob ob (Fp out k++[111,112,101,110,32]) w'/\Ez ob ob w1 w') :=
    Fu ob ob (Fp out k) ⟨#[111,112,101,110,32]⟩ w1 HB1.out (by show _+5<=_;omega) hob1
   go_wp2_with fail
   with_reducible refine HWS.out.mono ?_
   rintro e w2 ⟨rfl,hB2,hk2⟩;have hob2:ob<=w2.heap.size:=Am1 hob1 hk2.below.size;have HS2:=Aly (HSE.out.Acs _ _ _ HS1.out hk2.below);have HO2:=Aly (HO1.out.trans (hk2.below.mono (by omega)))
   have HB2':=Aly hB2;clear hB2 hk2 HWS HS1 HO1 HB1;subst hke;obtain⟨a9,c9,ms9,hc9,hsl9,hbd9,hlen9,htab9⟩:=HSE.out.fin _ HS2.out;have HCO:=Aly (A06 a9 c9 ms9 (by omega) hbd9 w2 hsl9)
   have HT9:=Aly htab9;clear hsl9 htab9 hbd9;have HCN:Hid (Oh ms9 ms9.length=#[.int .i64 (cnt 1 (ms9.take ms9.length)),.int .i64 (cnt (-1) (ms9.take ms9.length)),.int .i64 (cnt 0 (ms9.take ms9.length))]):=rfl;have hcl:cnt 0 (ms9.take ms9.length)<=64:=Am1 (Aa5 _ _) (by simp;omega)
   rw[HCN.out]at HCO;generalize cnt 1 (ms9.take ms9.length)=q1 at *;generalize cnt (-1) (ms9.take ms9.length)=q2 at *;generalize cnt 0 (ms9.take ms9.length)=q3 at *;have hnl:=A1m q3 (by omega)
   go_wp2_with fail
   with_reducible refine HCO.out.mono ?_
   rintro e w3 ⟨rfl,hb3⟩;have x2:∀w:World,(Instr.index 76 (.agg #[.int .i64 q1,.int .i64 q2,.int .i64 q3]) (.int .i64 2)).run Vp.prog w=.ok (.int .i64 q3) w:=fun _=>by kernel_rfl
   have HSP:Hid (Calls Vp.prog 34 #[.slice (some ⟨w3.heap.size,0,none⟩) 1 1] (w3.alloc (.cells #[.int .i64 q3] 3)) fun e w'=>e=.returned (.string ⟨(Ae [(q3:Int)]).toArray⟩)/\Below w3.heap.size w3 w'):=Mn [(q3:Int)] w3 _ (Cv hb3 rfl HT9.out) (by simp) (fun x hx=>by simp at hx;subst hx;unfold N64;omega) (by omega) (Amc _ _)
   have HB3:=Aly (HB2'.out.own (Cg hb3 none) (fun r hr=>by cases hr))
   have HO3':=Aly (HO2.out.trans (hb3.mono HO2.out.size));have hob3:ob<=w3.heap.size:=Am1 hob2 hb3.size;clear HT9 HCO HB2' HO2 hb3 HCN HS2;generalize hnq:Ae [(q3:Int)]=nq at *;have HNQ:=Aly hnq;clear hnq
   go_wp2_with fail
   with_reducible refine HSP.out.mono ?_
   rintro e w4 ⟨rfl,hb4⟩;have HB4:=Aly (HB3.out.own (Cg hb4 none) (fun r hr=>by cases hr))
   have HO4:=Aly (HO3'.out.trans (hb4.mono HO3'.out.size));have hob4:ob<=w4.heap.size:=Am1 hob3 hb4.size;clear HSP HB3 HO3' hb4 x2
   have HWT:Hid (Calls Vp.prog 31 #[.pointer (some ⟨ob,0,none⟩),.string ⟨nq.toArray⟩] w4 fun e w'=>e=.returned (.tuple #[.int .i64 nq.length,.nilIface])/\O9 ob ob (Fp out L.length++[111,112,101,110,32]++nq) w'/\Ez ob ob w4 w'):=by
    have h:=Fu ob ob (Fp out L.length++[111,112,101,110,32]) ⟨nq.toArray⟩ w4 HB4.out (by simp[ByteArray.size];omega) hob4
    rw[show(⟨nq.toArray⟩:ByteArray).data.toList=nq by simp,show(⟨nq.toArray⟩:ByteArray).size=nq.length by simp[ByteArray.size]]at h
    exact h
   go_wp2_with fail
   with_reducible refine HWT.out.mono ?_
   rintro e w5 ⟨rfl,hB5,hk5⟩;have hob5:ob<=w5.heap.size:=Am1 hob4 hk5.below.size;have HO5:=Aly (HO4.out.trans (hk5.below.mono (by omega)))
   have HWB:Hid (Calls Vp.prog 33 #[.pointer (some ⟨ob,0,none⟩),.int .u8 10] w5 fun e w'=>e=.returned .nilIface/\O9 ob ob (Fp out L.length++[111,112,101,110,32]++nq++[10]) w'/\Ez ob ob w5 w'):=Lg ob ob (Fp out L.length++[111,112,101,110,32]++nq) 10 w5 hB5 (by simp;omega) hob5
   clear hB5 hk5 HWT HB4 HO4
   go_wp2_with fail
   with_reducible refine HWB.out.mono ?_
   rintro e w6 ⟨rfl,hB6,hk6⟩;have hob6:ob<=w6.heap.size:=Am1 hob5 hk6.below.size;have HO6:=Aly (HO5.out.trans (hk6.below.mono (by omega)))
   have HST:=Aly (A3e ob ob _ w6 hB6 hob6);clear hB6 hk6 HWB HO5;generalize hres:Fp out L.length++[111,112,101,110,32]++nq++[10]=res at *;have HRES:=Aly hres;clear hres
   go_wp2_with fail
   with_reducible refine HST.out.mono ?_
   rintro e w7 ⟨rfl,hk7⟩;have HO7:=Aly (HO6.out.trans (hk7.below.mono (by omega)))
   clear hk7 HST HO6
   go_wp2
   go_ret
   exact⟨⟨q3,hcl,by rw[HNQ.out,HRES.out];rfl⟩,HO7.out⟩
end
section
open Go.RowKit Flo
theorem Ab2 (c:UInt8):∀(l r:List UInt8),c ∉ l->Lib.indexByte (l++c :: r) c=l.length
 | [],r,_=>by simp[Lib.indexByte]
 | d :: l,r,h=>by
   have hc:¬d=c:=fun e=>h (by simp[e])
   have ih:=Ab2 c l r (fun hx=>h (by simp[hx]))
   show Lib.indexByte (d ::(l++c :: r)) c=_
   unfold Lib.indexByte;rw[ih];simp[hc]
theorem Agp (c:UInt8)(l r:List UInt8)(h:c ∉ l):Lib.cut (l++c :: r) [c]=(l,r,true):=by
 unfold Lib.cut;rw[Lib.index_one,Ab2 c l _ h,Amo (by omega),Anc]
 simp
theorem A2q {P:Program}{w w':World}{row:Option Nat}{name:String}{k:IntKind}{zs:List Int}(hg:w.grownBy w' row)(hne:∀g,P.globalNamed name=some g->some g≠row)(h:Lib.TabIs P w name k zs):Lib.TabIs P w' name k zs:=by
 unfold Lib.TabIs World.var? at *
 cases hn:P.globalNamed name with
 | none=>simp[hn]at h
 | some g =>
   simp only[hn,Ao9]at h ⊢
   have hlt:g<w.heap.size:=by
    rcases Aqs g w.heap.size with h'|h'
    ·exact h'
    ·rw[Ao0 h']at h;simp at h
   rw[hg.block g hlt (hne g hn)]
   exact h
theorem Z6 {P:Program}{B:Nat}{w w':World}{name:String}{k:IntKind}{zs:List Int}(hb:Below B w w')(hB:∀g,P.globalNamed name=some g->g<B)(h:Lib.TabIs P w name k zs):Lib.TabIs P w' name k zs:=by
 unfold Lib.TabIs World.var? at *
 cases hn:P.globalNamed name with
 | none=>simp[hn]at h
 | some g =>
   simp only[hn,Ao9]at h ⊢;rw[hb.block g (hB g hn)]
   exact h
theorem Iq:Vp.prog.globalNamed "internal/strconv.uint64pow10" = some 3:=by kernel_rfl
theorem A8s {W W':World}{B:Nat}{a:Option Addr}{xs:List Value}(h:Sl W a xs)(hb:Below B W W')(hne:∀p,a=some p->p.block<B):Sl W' a xs:=by
 rcases h with h |⟨b,off,rfl,h⟩
 ·exact .inl h
 ·exact .inr ⟨b,off,rfl,fun i v hv=>(Ao1 (hb.block b (hne _ rfl))).trans (h i v hv)⟩
structure A3d (sb B:Nat)(C:Array Value)(a:Option Addr)(ms:List Value)(W:World):Prop where
 blk:W.heap[sb]?=some (.cells C 64 (0,0))
 sl:Sl W a ms
 Gb:Lib.TabIs Vp.prog W "internal/strconv.uint64pow10" .u64 Lib.pow10Tab
theorem A3d.step {sb B:Nat}{C:Array Value}{a:Option Addr}{ms:List Value}{W W':World}(h:A3d sb B C a ms W)(hb:Below B W W')(hsb:sb<B)(hg:3<B)(ha:∀p,a=some p->p.block<B):A3d sb B C a ms W' :=
 ⟨(hb.block sb hsb).trans h.blk,A8s h.sl hb ha,Z6 hb (fun g hn=>by rw[Iq]at hn;cases hn;exact hg) h.Gb⟩
theorem A3d.Aih {sb B:Nat}{C C':Array Value}{a:Option Addr}{ms:List Value}{W W':World}(h:A3d sb B C a ms W)(hg:W.grownBy W' (some sb))(hc:W'.heap[sb]?=some (.cells C' 64 (0,0)))(hgs:3<sb)(ha:∀p,a=some p->p.block≠sb):A3d sb B C' a ms W' :=
 ⟨hc,A26 h.sl hg ha,A2q hg (fun g hn=>by rw[Iq]at hn;cases hn;intro e;injection e with e;omega) h.Gb⟩
theorem Tb {n:Int}(h:n.natAbs<=9999):N64 n:=by unfold N64;omega
theorem E4 (n:Int)(h:n.natAbs<=9999):(Lib.itoa n).length<=21:=by
 unfold Lib.itoa
 split
 ·have:=Ju n.natAbs (by omega);simp;omega
 ·have:=Ju n.toNat (by omega);omega
theorem Dz (n m:Int)(ns:List Int):Ae (n :: m :: ns)=Lib.itoa n++32 :: Ae (m :: ns):=by
 unfold Ae Lib.join;simp[List.intercalate]
theorem F9 (n:Int):Ae [n]=Lib.itoa n:=by unfold Ae;rw[Apw,List.map_nil,Lib.join_one]
theorem Ss (n:Int):∀c∈Lib.itoa n,c=45 \/(48<=c.toNat/\c.toNat<=57):=by
 intro c hc;unfold Lib.itoa at hc
 split at hc
 ·rw[An7]at hc
  rcases hc with h|h
  ·exact .inl h
  ·exact .inr ((Kf _).1 c h)
 ·exact .inr ((Kf _).1 c hc)
theorem Ot:∀(ns:List Int),10 ∉ Ae ns
 | []=>by simp[Ae,Lib.join_nil]
 | [n]=>by
   rw[F9];intro h
   rcases Ss n 10 h with h|h
   ·exact absurd h (by decide)
   ·exact absurd h.1 (by decide)
 | n :: m :: ns=>by
   rw[Dz,Aq9,An7];rintro(h|h|h)
   ·rcases Ss n 10 h with h|h
    ·exact absurd h (by decide)
    ·exact absurd h.1 (by decide)
   ·exact absurd h (by decide)
   ·exact Ot (m :: ns) h
theorem I2 {a b l:Int}(ha:a.natAbs<=9999)(hb:b.natAbs<=9999)(hl:l.natAbs<=9999):(Ae [a,b,l]).length<=65:=by
 rw[Dz,Dz,F9];have:=E4 a ha;have:=E4 b hb;have:=E4 l hl;simp only[Amy,Ann]
 omega
theorem Oq {a b:Int}(ha:a.natAbs<=9999)(hb:b.natAbs<=9999):(Ae [a,b]).length<=43:=by
 rw[Dz,F9];have:=E4 a ha;have:=E4 b hb;simp only[Amy,Ann]
 omega
def Lx (a b:Int)(l:Nat):List (List UInt8):=[[97,116]++32 :: Ae [a,b,l],[119,104,101,114,101],[101,115,99,97,112,101]]
def O6 (a b:Int)(l:Nat)(k n:Int):Nat->List UInt8
 | 0=>[111,107]
 | 1=>Ae [a,b,l]
 | 2=>Ae [k,n]
 | _=>[]
def xC (a b:Int)(l:Nat)(tc:List Value)(k:Nat):Array Value:=if k=0 then G5 0 0 0 50 tc else G5 a b l 50 tc
structure Adg (a b:Int)(l u v p q:Nat)(k n:Int):Prop where
 val:Br a b l=true
 low:Sy a b l=(a,b,l)
 ha:a.natAbs<=9999
 hb:b.natAbs<=9999
 hl:l<=60
 eu:Zi a l=some u
 ev:Zi b l=some v
 ep:Uw u=some p
 eq:Uw v=some q
 ek:Jy (okW u v) (Aj (50:Nat)).toNat=k
 en:Jy (Nj p q) (Aj (50:Nat)).toNat=n
 hk:k.natAbs<=9999
 hn:n.natAbs<=9999
section
variable {a b : Int} {l u v p q : Nat} {k n : Int} (X : Adg a b l u v p q k n)
include X
theorem Ak4 {sb:Nat}(tc:List Value)(w:World)(hsb:sb<w.heap.size)(hC:w.heap[sb]?=some (.cells (G5 0 0 0 50 tc) 64 (0,0))) :
 Calls Vp.prog 32 #[.pointer (some ⟨sb,0,none⟩),.string ⟨([97,116]++32 :: Ae [a,b,(l:Int)]).toArray⟩] w fun e w'=>e=.returned (.string ⟨#[111,107]⟩)/\w.grownBy w' (some sb)/\w'.heap[sb]?=some (.cells (G5 a b l 50 tc) 64 (0,0)):=by
 have hl3:=I2 X.ha X.hb (l:=(l:Int)) (by have:=X.hl;omega)
 refine Ob sb 0 3 _ _ [97,116] (Ae [a,b,(l:Int)]) true ⟨#[111,107]⟩ (G5 a b l 50 tc) w (fun v W=>∃g,v=.slice (some ⟨g,0,none⟩) 3 3/\W.ownsRow 0 3 1 v 3 ([a,b,(l:Int)].map By)) ?_ ?_ rfl rfl (fun k c h=>absurd h (Nat.not_lt_zero k)) hsb (fun _ _=>rfl) ?_ ?_
 ·show([97,116]++32 :: Ae [a,b,(l:Int)]).toArray.size<_
  simp
  omega
 ·simp only[]
  exact Agp 32 [97,116] _ (by decide)
 ·intro _ W _
  refine(Tj [a,b,(l:Int)] (by simp) (by simp) (fun x hx=>?_) W (by omega)).mono ?_
  ·have:=X.ha;have:=X.hb;have:=X.hl;simp at hx
   rcases hx with rfl|rfl|rfl<;>omega
  ·rintro e W' ⟨rfl,hb,ho⟩
   exact⟨_,rfl,hb,_,rfl,⟨ho.1,ho.2.imp id fun⟨g,cap,cur,h1,h2,h3⟩=>⟨g,cap,cur,h1,Amu _,h3⟩⟩⟩
 ·rintro W v hW hv -;obtain⟨g,rfl,ho⟩:=hv rfl
  refine(Aje sb g 0 0 0 50 a b l tc W ⟨(hW.block sb hsb).trans hC⟩ ho X.val X.low).mono ?_
  rintro e W' ⟨rfl,hg,hs⟩
  exact⟨rfl,hg,hs.blk⟩
theorem Ak5 {sb:Nat}(tc:List Value)(w:World)(htab:Lib.TabIs Vp.prog w "internal/strconv.uint64pow10" .u64 Lib.pow10Tab)(hsb:sb<w.heap.size)(hC:w.heap[sb]?=some (.cells (G5 a b l 50 tc) 64 (0,0))) :
 Calls Vp.prog 32 #[.pointer (some ⟨sb,0,none⟩),.string ⟨#[119,104,101,114,101]⟩] w fun e w'=>e=.returned (.string ⟨(Ae [a,b,(l:Int)]).toArray⟩)/\w.grownBy w' (some sb)/\w'.heap[sb]?=some (.cells (G5 a b l 50 tc) 64 (0,0)):=by
 have hl3:=I2 X.ha X.hb (l:=(l:Int)) (by have:=X.hl;omega)
 refine Ob sb 2 0 _ _ [119,104,101,114,101] [] false _ (G5 a b l 50 tc) w (fun _ _=>True) (by decide) (by decide) rfl rfl ?_ hsb (fun _ _=>rfl) (fun h=>by cases h) ?_
 ·intro k c hk hc
  rcases(by omega:k=0\/k=1)with rfl|rfl<;>(cases hc;intro h;rw[ByteArray.toList_eq]at h;revert h;decide)
 ·rintro W v hW - -
  refine(Ad3 sb a b l 50 tc v W (Cv hW rfl htab) ⟨(hW.block sb hsb).trans hC⟩ (Tb X.ha) (Tb X.hb) (Tb (by have:=X.hl;omega)) (by omega)).mono ?_
  rintro e W' ⟨rfl,hb⟩
  exact⟨rfl,Cg hb _,(hb.block sb (Am2 hsb hW.size)).trans ((hW.block sb hsb).trans hC)⟩
theorem Ak6 {sb:Nat}(tc:List Value)(w:World)(htab:Lib.TabIs Vp.prog w "internal/strconv.uint64pow10" .u64 Lib.pow10Tab)(hsb:sb<w.heap.size)(hC:w.heap[sb]?=some (.cells (G5 a b l 50 tc) 64 (0,0))) :
 Calls Vp.prog 32 #[.pointer (some ⟨sb,0,none⟩),.string ⟨#[101,115,99,97,112,101]⟩] w fun e w'=>e=.returned (.string ⟨(Ae [k,n]).toArray⟩)/\w.grownBy w' (some sb)/\w'.heap[sb]?=some (.cells (G5 a b l 50 tc) 64 (0,0)):=by
 have hl2:=Oq X.hk X.hn
 refine Ob sb 3 0 _ _ [101,115,99,97,112,101] [] false _ (G5 a b l 50 tc) w (fun _ _=>True) (by decide) (by decide) rfl rfl ?_ hsb (fun _ _=>rfl) (fun h=>by cases h) ?_
 ·intro k c hk hc
  rcases(by omega:k=0\/k=1\/k=2)with rfl|rfl|rfl<;>(cases hc;intro h;rw[ByteArray.toList_eq]at h;revert h;decide)
 ·rintro W v hW - -
  refine(A7j sb a b 50 l u _ p q tc v W (Cv hW rfl htab) ⟨(hW.block sb hsb).trans hC⟩ X.val X.eu X.ev X.ep X.eq k n X.ek X.en (Tb X.hk) (Tb X.hn) (by omega)).mono ?_
  rintro e W' ⟨rfl,hb⟩
  exact⟨rfl,Cg hb _,(hb.block sb (Am2 hsb hW.size)).trans ((hW.block sb hsb).trans hC)⟩
theorem A4r (w:World)(htab:Lib.TabIs Vp.prog w "internal/strconv.uint64pow10" .u64 Lib.pow10Tab)(hgs:3<w.heap.size)(W:World)(x y:Nat)(d z:Int)(a1:Option Addr)(n1 c1:Nat)(a2:Option Addr)(ms:List Int)(c:Nat)(hW:Below w.heap.size w W)
 (hS:SW w.heap.size 0 0 0 50 (U8 x y d z a1 n1 c1 a2 ms c) W) (hF:A5n x y d z a1 n1 c1 a2 ms c W) (hfar:∀p,a2=some p->w.heap.size<p.block) :
 ∃S,Ajc w.heap.size W.heap.size (Lx a b l).length S (fun j=>(Lx a b l)[j]!) (O6 a b l k n)/\S 0 W:=by
 have hsb:w.heap.size<W.heap.size:=hS.lt
 have hblk:∀p,a2=some p->ms≠[]->p.block<W.heap.size:=fun p hp hne=>by
  rcases hF.sl with h |⟨b,off,rfl,h⟩
  ·simp at h;exact absurd h hne
  ·cases hp
   cases ms with
   | nil=>exact absurd rfl hne
   | cons m ms=>exact Aqy W _ (h 0 _ rfl)
 obtain⟨a3,ha3,hsl3,hlt3⟩:∃a3:Option Addr,(ms≠[]->a3=a2)/\Sl W a3 (ms.map By) /\(∀p,a3=some p->p.block<W.heap.size/\p.block≠w.heap.size):=by
  cases ms with
  | nil=>exact⟨none,fun h=>absurd rfl h,.inl rfl,fun p h=>by cases h⟩
  | cons m ms=>exact⟨a2,fun _=>rfl,hF.sl,fun p hp=>⟨hblk p hp (by simp),Nat.ne_of_gt (hfar p hp)⟩⟩
 refine⟨fun j V=>A3d w.heap.size W.heap.size (xC a b l (U8 x y d z a1 n1 c1 a2 ms c) j) a3 (ms.map By) V,⟨?_,?_,?_⟩,⟨hS.blk,hsl3,Cv hW rfl htab⟩⟩
 ·intro j V V' h hb
  exact h.step hb hsb (Nat.lt_trans hgs hsb) fun p hp=>(hlt3 p hp).1
 ·intro j hj V hV h;have hsv:=Am2 hsb hV;have hj3:j<3:=hj
  rcases(by omega:j=0\/j=1\/j=2)with rfl|rfl|rfl
  ·exact(Ak4 X _ V hsv h.blk).mono fun e V' ⟨h1,h2,h3⟩=>⟨h1,h2,h.Aih h2 h3 hgs fun p hp=>(hlt3 p hp).2⟩
  ·exact(Ak5 X _ V h.Gb hsv h.blk).mono fun e V' ⟨h1,h2,h3⟩=>⟨h1,h2,h.Aih h2 h3 hgs fun p hp=>(hlt3 p hp).2⟩
  ·exact(Ak6 X _ V h.Gb hsv h.blk).mono fun e V' ⟨h1,h2,h3⟩=>⟨h1,h2,h.Aih h2 h3 hgs fun p hp=>(hlt3 p hp).2⟩
 ·intro V h
  refine⟨a2,c,ms,?_,?_,hF.bd,hF.len,h.Gb⟩
  ·rw[Amb h.blk]
   rfl
  ·cases ms with
   | nil=>exact .inl rfl
   | cons m ms=>rw[<-ha3 (by simp)];exact h.sl
end
end
section
open Go.RowKit
theorem Afo (a b:Nat)(ha:a<9223372036854775808)(hb:b<9223372036854775808):bits .xor .i64 (a:Int) (b:Int)=((a ^^^ b:Nat):Int):=by
 have hx:a ^^^ b<2^63:=Nat.xor_lt_two_pow (by omega) (by omega)
 show IntKind.i64.wrap ((BitVec.ofInt 64 (a:Int) ^^^ BitVec.ofInt 64 (b:Int)).toNat:Int)=_
 rw[BitVec.toNat_xor,ofInt_u64 a (by omega),ofInt_u64 b (by omega)]
 simp[IntKind.wrap,IntKind.bits,IntKind.signed]
 omega
theorem Afn (a b:Int)(ha:0<=a)(ha2:a<9223372036854775808)(hb:0<=b)(hb2:b<9223372036854775808):∃x,bits .xor .i64 a b=x/\0<=x/\x<9223372036854775808:=by
 obtain⟨A,rfl⟩:=Aoe ha;obtain⟨B,rfl⟩:=Aoe hb
 refine⟨_,Afo A B (by omega) (by omega),by omega,?_⟩
 have hx:A ^^^ B<2^63:=Nat.xor_lt_two_pow (by omega) (by omega)
 omega
structure Jh (b:Nat)(w w':World):Prop where
 os:w'.os=w.os
 tape:w'.tape=w.tape
 output:w'.output=w.output
 size:w.heap.size<=w'.heap.size
 block:∀k,k<w.heap.size->k≠b->w'.heap[k]?=w.heap[k]?
theorem Jh.refl (b:Nat)(w:World):Jh b w w:=⟨rfl,rfl,rfl,Am0 _,fun _ _ _=>rfl⟩
theorem Jh.trans {b:Nat}{u v w:World}(h:Jh b u v)(k:Jh b v w):Jh b u w :=
 ⟨k.os.trans h.os,k.tape.trans h.tape,k.output.trans h.output,Am1 h.size k.size,fun i hi hne=>(k.block i (Am2 hi h.size) hne).trans (h.block i hi hne)⟩
theorem Jh.Tc {b:Nat}{u v:World}(h:Below u.heap.size u v):Jh b u v:=⟨h.os,h.tape,h.output,h.size,fun i hi _=>h.block i hi⟩
theorem Jh.setCell {b:Nat}{u v:World}(h:Jh b u v)(j:Nat)(x:Value):Jh b u (v.setCell ⟨b,j,none⟩ x):=by
 refine h.trans ⟨rfl,rfl,rfl,by simp,fun i _ hne=>An8 _ _ _ _ (by simpa using hne)⟩
theorem Jh.below {b:Nat}{u v:World}(h:Jh b u v)(B:Nat)(hB:B<=u.heap.size)(hb:B<=b):Below B u v:=⟨h.os,h.tape,h.output,h.size,fun i hi=>h.block i (by omega) (by omega)⟩
def Rd (w0:World)(b:Nat)(p:Nat)(W:World):Prop :=
 ∃(a:Option Addr) (c:Nat) (bs:List UInt8),A7 w0 b #[.slice a bs.length c,.int .i64 p] 113 W/\Sl w0 a (bs.map Cp)/\w0.heap.size<=b/\bs.length<=2000
theorem Rd.below {w0:World}{b p:Nat}{W:World}(h:Rd w0 b p W):Below w0.heap.size w0 W:=by
 obtain⟨_,_,_,h,_⟩:=h;exact h.old
theorem Rd.step {w0:World}{b p:Nat}{W W':World}(h:Rd w0 b p W)(k:Below W.heap.size W W'):Rd w0 b p W':=by
 obtain⟨a,c,bs,h,r⟩:=h;exact⟨a,c,bs,h.step k,r⟩
theorem Xm (x:UInt8):(x.toNat:Int)<=255:=by have:=x.toNat_lt;omega
theorem Nl (w0:World)(b p:Nat)(k:Int)(hp:p<=1099511627776)(hk:k<=1099511627776)(W:World)(h:Rd w0 b p W) :
 Calls Vp.prog 62 #[.pointer (some ⟨b,0,none⟩),.int .i64 k] W fun e w'=>(∃r:Int,e=.returned (.int .i64 r)/\0<=r /\(r<k\/r=0))/\Rd w0 b (p+1) w'/\Jh b W w':=by
 obtain⟨a,c,bs,hB,hS,hb,hn⟩:=h;have c0:=hB.cell 0 _ rfl;have c1:=hB.cell 1 _ rfl;have f1:=hB.frozen 1;have hlt:=hB.lt;obtain⟨q,hq⟩:∃q:Int,q=(p:Int)+1:=⟨_,rfl⟩;have B2:=hB.set hb 1 (.int .i64 q);have O2:=(Jh.refl b W).setCell 1 (.int .i64 q);have S2:=Aly (hS.step B2.old)
 have HR:Hid (∀W',Bp (W.setCell ⟨b,1,none⟩ (.int .i64 q)) W'->Rd w0 b (p+1) W'/\Jh b W W'):=fun W' hd=>by
  refine⟨⟨a,c,bs,?_,hS,hb,hn⟩,O2.trans (Jh.Tc (hd.below _))⟩
  rw[show((p+1:Nat):Int)=q by omega]
  exact B2.step (hd.below _)
 have hlt2:=B2.lt;have d0:=B2.cell 0 _ rfl;have d1:=B2.cell 1 _ rfl;clear B2 O2 hS hB;obtain⟨n,hN⟩:∃n,bs.length=n:=⟨_,rfl⟩;rw[hN]at hn d0 d1;have HN:=Aly hN;clear hN
 go_enter Vp.func62,Tryz.ntmps62
 go_upto_region 2 with fail
 rw[<-hq];generalize W.setCell ⟨b,1,none⟩ (.int .i64 q)=W1 at *;clear c0 c1 f1 hlt
 by_cases hk1:k<1
 ·go_wp2
  go_ret
  exact⟨⟨0,rfl,by omega,.inr rfl⟩,HR.out _ (Bp.refl _)⟩
 by_cases hn0:n=0
 ·subst hn0
  go_wp2
  go_ret
  exact⟨⟨0,rfl,by omega,.inr rfl⟩,HR.out _ (Bp.refl _)⟩
 have hnb:((n:Int) == 0)=false:=by simpa using hn0
 by_cases hpn:q-1<n
 ·have hpl:p<bs.length:=by rw[HN.out];omega
  have hx:(bs.map Cp)[p]?=some (Cp (bs[p])):=by rw[Aqj,Amw hpl];rfl
  obtain⟨ab,ao,rfl,hc⟩:=S2.out.at hx;have hle:=Xm bs[p];unfold Cp at hc;clear hx S2;generalize bs[p]=x at *;have hx0:(0:Int)<=x.toNat:=by omega
  generalize (x.toNat:Int)=y at *;have hkb:(k == 0)=false:=by simp;omega
  obtain⟨r,hr⟩:∃r,y.tmod k=r:=⟨_,rfl⟩;have r0:0<=r:=by rw[<-hr];exact Int.tmod_nonneg _ (by omega)
  have r1:r<k:=by rw[<-hr];exact Int.tmod_lt_of_pos _ (by omega)
  go_wp2
  go_ret
  exact⟨⟨r,rfl,r0,.inl r1⟩,HR.out _ (Bp.refl _)⟩
 ·have hnp:(0:Int)<n:=by omega
  have hpn':decide ((p:Int)<n)=false:=by simp;omega
  have hpn2:decide (p<n)=false:=by simp;omega
  obtain⟨i,hi⟩:∃i,(p:Int).tmod n=i:=⟨_,rfl⟩;obtain⟨j,hj⟩:∃j,((p:Int)*7+3).tmod n=j:=⟨_,rfl⟩;obtain⟨l,hl⟩:∃l,(p:Int).tdiv n=l:=⟨_,rfl⟩;have i1:0<=i:=by rw[<-hi];exact Int.tmod_nonneg _ (by omega)
  have i2:i<n:=by rw[<-hi];exact Int.tmod_lt_of_pos _ hnp
  have j1:0<=j:=by rw[<-hj];exact Int.tmod_nonneg _ (by omega)
  have j2:j<n:=by rw[<-hj];exact Int.tmod_lt_of_pos _ hnp
  have l1:0<=l:=by rw[<-hl];exact Int.tdiv_nonneg (by omega) (by omega)
  have l2:l<=p:=by rw[<-hl,Anx (by omega)];exact Int.ediv_le_self _ (by omega)
  have hx1:(bs.map Cp)[i.toNat]?=some (Cp (bs[i.toNat]'(by rw[HN.out];omega))):=by rw[Aqj,Amw (by rw[HN.out];omega)];rfl
  have hx2:(bs.map Cp)[j.toNat]?=some (Cp (bs[j.toNat]'(by rw[HN.out];omega))):=by rw[Aqj,Amw (by rw[HN.out];omega)];rfl
  obtain⟨ab,ao,rfl,hc1⟩:=S2.out.at hx1;obtain⟨ab',ao',he,hc2⟩:=S2.out.at hx2;obtain⟨rfl,rfl⟩:ab=ab'/\ao=ao':=by injection he with he;injection he with h1 h2 _;exact⟨h1,h2⟩
  have b1:=Xm (bs[i.toNat]'(by rw[HN.out];omega))
  have b2:=Xm (bs[j.toNat]'(by rw[HN.out];omega))
  unfold Cp at hc1 hc2;have b3:(0:Int) <=((bs[i.toNat]'(by rw[HN.out];omega)).toNat:Int):=by omega
  have b4:(0:Int) <=((bs[j.toNat]'(by rw[HN.out];omega)).toNat:Int):=by omega
  clear hx1 hx2 he S2;generalize ((bs[i.toNat]'(by rw[HN.out];omega)).toNat:Int)=y1 at *
  generalize ((bs[j.toNat]'(by rw[HN.out];omega)).toNat:Int)=y2 at *
  go_upto_region 7 with fail
  go_quiet (fail)
  obtain⟨x,hx⟩:∃x,x=y1*131+y2*1117 +(p:Int)*29+l*53:=⟨_,rfl⟩;have x0:0<=x:=by omega
  have x1:x<9223372036854775808:=by omega
  rw[<-hx];obtain⟨u,hu⟩:∃u,x.tdiv 64=u:=⟨_,rfl⟩;have u0:0<=u:=by rw[<-hu];exact Int.tdiv_nonneg (by omega) (by omega)
  have u1:u<=x:=by rw[<-hu,Anx (by omega)];exact Int.ediv_le_self _ (by omega)
  obtain⟨v,hv,v0,v1⟩:=Afn x u x0 x1 u0 (by omega)
  obtain⟨r,hr⟩:∃r,v.tmod k=r:=⟨_,rfl⟩;have r0:0<=r:=by rw[<-hr];exact Int.tmod_nonneg _ (by omega)
  have r1:r<k:=by rw[<-hr];exact Int.tmod_lt_of_pos _ (by omega)
  have hkb:(k == 0)=false:=by simp;omega
  clear hx hi hj hl hc1 hc2 d0 d1
  go_wp2
  go_ret
  exact⟨⟨r,rfl,r0,.inl r1⟩,HR.out _ ((Bp.refl _).drewN _)⟩
theorem Abl (a:Option Addr)(c:Nat)(bs:List UInt8)(hn:bs.length<=1048576)(hc:bs.length<=c)(w:World)(hs:Sl w a (bs.map Cp)) :
 Calls Vp.prog 24 #[.slice a bs.length c] w fun e w'=>∃b,e=.returned (.pointer (some ⟨b,0,none⟩))/\b=w.heap.size/\Rd w b 0 w':=by
 obtain⟨n,hN⟩:∃n,bs.length=n:=⟨_,rfl⟩
 by_cases h:2000<n
 ·have HR:Hid (Rd w w.heap.size 0 (w.alloc (.cells #[.slice a 2000 c,.int .i64 0] 113))):=by
   have hl:(bs.take 2000).length=2000:=by simp;omega
   refine⟨a,c,bs.take 2000,?_,?_,Am0 _,by omega⟩
   ·rw[hl];exact A7.new w _ _
   ·rcases hs with hs |⟨b,o,ha,hs⟩
    ·simp at hs;simp[hs]at hN;omega
    ·refine .inr ⟨b,o,ha,fun i v hv=>?_⟩
     refine hs i v ?_
     rw[List.map_take,List.getElem?_take]at hv
     split at hv
     ·exact hv
     ·cases hv
  obtain⟨ab,ao,rfl⟩:∃ab ao,a=some ⟨ab,ao,none⟩:=by
   rcases hs with hs |⟨b,o,ha,hs⟩
   ·simp at hs;simp[hs]at hN;omega
   ·exact⟨b,o,ha⟩
  rw[hN]at hn hc ⊢;have hc2:2000<=c:=by omega
  have hc3:(2000:Int)<=c:=by omega
  clear hN hs
  go_enter Vp.func24,Tryz.ntmps24
  go_wp2
  go_ret
  exact⟨_,rfl,rfl,HR.out⟩
 ·have HR:Hid (Rd w w.heap.size 0 (w.alloc (.cells #[.slice a n c,.int .i64 0] 113))) :=
   ⟨a,c,bs,by rw[hN];exact A7.new w _ _,hs,Am0 _,by omega⟩
  rw[hN];clear hs;rw[hN]at hn hc;clear hN
  go_enter Vp.func24,Tryz.ntmps24
  go_wp2
  go_ret
  exact⟨_,rfl,rfl,HR.out⟩
end
section
open Go.RowKit
theorem A7.only {w0 W W':World}{b b':Nat}{C:Array Value}{T:TypeId}(h:A7 w0 b' C T W)(k:Jh b W W')(hne:b'≠b)(hb:w0.heap.size<=b):A7 w0 b' C T W' :=
 ⟨(k.block b' h.lt hne).trans h.blk,h.old.trans (k.below _ h.old.size hb)⟩
theorem Rd.own {w0:World}{b p:Nat}{W:World}(h:Rd w0 b p W):w0.heap.size<=b/\b<W.heap.size:=by
 obtain⟨_,_,_,h,_,h2,_⟩:=h;exact⟨h2,h.lt⟩
theorem Rd.other {w0:World}{b q:Nat}{W:World}(h:Rd w0 b q W){p:Addr}(hp:w0.heap.size<=p.block)(hne:b≠p.block)(v:Value):Rd w0 b q (W.setCell p v):=by
 obtain⟨a,c,bs,h,r⟩:=h;exact⟨a,c,bs,h.other hp hne v,r⟩
end
end Go.Proofs.YtjaehldnlamgkaaGreatDoor
