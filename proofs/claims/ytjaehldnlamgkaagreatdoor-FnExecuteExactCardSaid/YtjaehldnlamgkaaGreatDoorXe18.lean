import Derived.Test.YtjaehldnlamgkaaGreatDoorXe17
import Derived.Shelf.Strings.Builder1
import Derived.Shelf.Strings.Builder2
import Derived.Shelf.Strings.OnBuilder
import Derived.Shelf.Small.Bits
import Derived.Shelf.Small.Wraps
import Derived.Shelf.Strings.BuilderF
import Derived.Shelf.Strings.BuilderK
import Derived.Shelf.Utf8.RuneCount
import Derived.Shelf.Strings.Builder2Cap
import Derived.Shelf.Strconv.Itoa0
import Derived.Shelf.Strconv.Itoa1
import Derived.Shelf.LaysM
import Derived.Shelf.Strconv.Itoa2
import Derived.Shelf.Strconv.Itoa3
import Derived.Shelf.Strings.Search1
import Derived.Shelf.Strings.Search2
import Derived.Shelf.Strings.Search3
import Derived.Shelf.Strings.Cut
import Derived.Shelf.Strings.Count
import Derived.Shelf.Strings.Shaped
import Derived.Shelf.Strings.Prefix
import Derived.Shelf.Strings.Split
import Derived.Shelf.Strings.SplitShaped
import Derived.Shelf.Unicode.Decode
import Derived.Shelf.Strings.RuneCount
import Derived.Shelf.Strings.Explode
import Derived.Shelf.Unicode.DecodeSlow
import Derived.Shelf.Unicode.DecodeAny
import Derived.Shelf.Strings.BuilderCap
import Derived.Test.YtjaehldnlamgkaaGreatDoorXe0
set_option linter.all false
set_option maxHeartbeats 16000000
set_option maxRecDepth 100000
namespace Go.Proofs.YtjaehldnlamgkaaGreatDoor
section
open Go.RowKit Go.Conc Co Ok Lr Tl Bar
theorem A9g {P:Program}{F:St->Prop}(hF:∀x,F x->Vl x){z:St}:∀(n:Nat) (x:St),Bar.Way P F x->runN P n (lone x.fr (x.cs++[wall P]) x.V)=.next (lone z.fr (z.cs++[wall P]) z.V)->Bar.Sub P x z:=by
 intro n
 induction n with
 | zero =>
   intro x _ h;simp only[runN]at h;injection h with h
   injection h with h1 h2 _
   have h2:(#[{ frame:=x.fr,callers:=x.cs++[wall P],status:=.running,dying:=none }]:Array Goroutine)=#[{ frame:=z.fr,callers:=z.cs++[wall P],status:=.running,dying:=none }]:=h2;simp only[Array.mk.injEq,List.cons.injEq,Goroutine.mk.injEq,and_true]at h2;obtain⟨a,b,c⟩:=x;obtain⟨a',b',c'⟩:=z;dsimp only at h1 h2;obtain⟨rfl,h3⟩:=h2;subst h1;have h3:=Anr h3;subst h3
   exact .refl _
 | succ n ih =>
   intro x hw h;simp only[runN]at h
   cases hw with
   | fin hx =>
     have hp:=hF x hx;rw[hp.1]at h
     rcases A1q (P:=P) hp with⟨o,w,e⟩ |⟨fr1,w,o,w1,e1,e2⟩
     ·rw[Ant,e]at h
      cases h
     ·rw[Ant,e1]at h;dsimp only at h
      cases n with
      | zero =>
        simp only[runN]at h;injection h with h
        injection h with _ h2 _
        have h2:(#[{ frame:=fr1,callers:=[],status:=.running,dying:=none }]:Array Goroutine)=#[{ frame:=z.fr,callers:=z.cs++[wall P],status:=.running,dying:=none }]:=h2;simp at h2
      | succ n =>
        simp only[runN,e2]at h
        cases h
   | go g hg hw =>
     obtain⟨es,k⟩:=hg x.V.tape x.V.drawn;have k:stepG P true { frame:=x.fr,callers:=x.cs++[wall P],status:=.running,dying:=none } x.V=_:=k;have:step P (lone x.fr (x.cs++[wall P]) x.V)=.next (lone (g x.V.tape x.V.drawn).fr ((g x.V.tape x.V.drawn).cs++[wall P]) (g x.V.tape x.V.drawn).V):=step_lone_go (by rw[k];rfl)
     rw[this]at h
     exact .step x.V.tape x.V.drawn ⟨es,k⟩ (ih _ (hw _ _) h)
theorem Zu {P:Program}{F:St->Prop}(hF:∀x,F x->Vl x){f:FuncId}{args:Array Value}{V:World}{c:Frame}{cs:List Frame}{Q:Value->World->Prop}(hw:Bar.Way P F ⟨Frame.enter P f args .normal,c :: cs,V⟩)(h:Calls P f args V (fun e w=>∃v,e=.returned v/\Q v w)) :
 ∃v V',Q v V'/\Bar.Sub P ⟨Frame.enter P f args .normal,c :: cs,V⟩ ⟨c.finish v,cs,V'⟩:=by
 obtain⟨e,w',fr,⟨v,rfl,hq⟩,hs,hf,hl⟩:=h (c :: cs++[wall P]);have hs:Steps P (lone (Frame.enter P f args .normal) (c :: cs++[wall P]) V) (lone fr (c ::(cs++[wall P])) w'):=hs
 have h1:Steps P (lone fr (c ::(cs++[wall P])) w') (lone (c.finish v) (cs++[wall P]) w'):=⟨1,by
  simp only[runN];rw[step_leave_returned hl]⟩
 obtain⟨n,hn⟩:=Steps.trans hs h1
 exact⟨v,w',hq,A9g hF (z:=⟨c.finish v,cs,w'⟩) n ⟨Frame.enter P f args .normal,c :: cs,V⟩ hw hn⟩
def A1k (cx cy:Nat)(deep size A6:Int):Array Value:=#[.complex .f32 cx cy,.int .i64 deep,.int .i64 size,.int .i64 A6]
def Age:Value:=.tuple #[.agg (C8 0 0 0 0 (.slice none 0 0) (.slice none 0 0)),.bool false]
def Agl (cx cy:Nat)(deep size A6:Int):Prop :=
 (∀a:Act,a.tmps.size=71->a.tmps[0]?=some (.complex .f32 cx cy)->a.tmps[1]?=some (.int .i64 deep)->a.tmps[2]?=some (.int .i64 size)->a.tmps[3]?=some (.int .i64 A6)->a.defers=[]->∀w,HW Vp.prog [.code (cut [9,10,12] Aq)] (Qk 0 0 0 0 false [] [] w) a w) /\
 ∀V,Calls Vp.prog 17 (A1k cx cy deep size A6) V fun e V'=>e=.returned Age/\Below V.heap.size V V'
def Agm (cx cy:Nat)(deep size A6:Int):Prop :=
 ∃(d n:Nat) (px py:Nat->Nat->Nat) (bx:Nat->Nat->Value) (st:Nat->Nat->Int) (sm:Nat->Nat->Nat) (ex ey:Nat),deep=d/\size=n/\n<=8/\0<n/\Jl cx cy d n A6 px py bx st sm /\
  (∀W,Calls Vp.prog 43 #[.complex .f32 cx cy,.int .i64 d,.int .i64 n] W fun e w'=>e=.returned (.bool true)/\W=w') /\(∀W,Calls Vp.prog 44 #[.complex .f32 cx cy,.int .i64 d,.int .i64 n,.int .i64 n] W fun e w'=>e=.returned (.complex .f32 ex ey)/\W=w') /\
  (FloatKind.f32.format.order ex 1090519040 == some .gt)=false /\(FloatKind.f32.format.order ey 1090519040 == some .gt)=false /\
  ∀V,Calls Vp.prog 17 (A1k cx cy deep size A6) V fun e V'=>∃v,e=.returned v/\Vm cx cy d n (rowsOf n sm n) (rowsOf n st n) V.heap.size v V'/\Below V.heap.size V V'
def Adf:Prop:=∀cx cy deep size A6,Agl cx cy deep size A6\/Agm cx cy deep size A6
abbrev tmL:List (Nat×Nat):=[(17,4)]
section
variable {cl gl : List Nat} {Q : String -> Code -> Prop} {F : Nat -> Prop} {L : Nat -> Nat} {lf : ∀ b, L b ≠ 0 -> F b} {xl : Ji Vp.prog gl = true -> ∀ b, ¬ F b}
theorem Aii {cx cy d n gS gM gS' gM':Nat}{B:Lk}{V:World}(hF:∀b,F b->b<V.heap.size)(h1:V.heap.size<=gS)(h2:V.heap.size<=gM)(b1:B gS gS')(b2:B gM gM') :
 VR (Zh Vp.prog tmL cl gl Q (fun _=>False) F False L lf xl) B (.tuple #[.agg (C8 cx cy d n (.slice (some ⟨gS,0,none⟩) (n*n) (n*n)) (.slice (some ⟨gM,0,none⟩) (n*n) (n*n))),.bool true])
  (.tuple #[.agg (C8 cx cy d n (.slice (some ⟨gS',0,none⟩) (n*n) (n*n)) (.slice (some ⟨gM',0,none⟩) (n*n) (n*n))),.bool true]):=by
 have hl:∀g,V.heap.size<=g->L g<=0:=fun g hg=>Aof (Anm fun x=>Aod _ (Am2 (hF g (lf g x)) hg))
 refine .tuple rfl fun i v v' x x'=>?_
 match i with
 | 0 =>
   cases x;cases x'
   refine .agg rfl fun i v v' x x'=>?_
   match i with
   | 0=>cases x;cases x';exact .complex _ _ _
   | 1=>cases x;cases x';exact .int _ _
   | 2=>cases x;cases x';exact .int _ _
   | 3=>cases x;cases x';exact .slice _ _ ⟨⟨b1,id⟩,⟨rfl,hl _ h1⟩,rfl⟩
   | 4=>cases x;cases x';exact .slice _ _ ⟨⟨b2,id⟩,⟨rfl,hl _ h2⟩,rfl⟩
   | i+5=>cases x
 | 1=>cases x;cases x';exact .bool _
 | i+2=>cases x
theorem Abn (hV:Adf){Fi:St->Prop}(hFi:∀x,Fi x->Vl x)(m0:Nat)(w0:World)(S:Nat->Prop)(Post:Value->World->Prop) :
 A9u (Zh Vp.prog tmL cl gl Q (fun _=>False) F False L lf xl) Vp.prog Tryz.prog Fi m0 w0 S Post:=by
 intro f p p' c cs V B gs w sl t q cs' hT hway hsub hb hkp hw hp hcs h0 hL hP;obtain⟨-,hT⟩:=hT;have hT:(f,p.size)∈tmL:=hT;simp only[Ap6,Prod.mk.injEq]at hT;obtain⟨rfl,hs⟩:=hT;obtain⟨cx,cy,deep,size,A6,rfl⟩:=Ac2 hFi hs hway
 obtain rfl:p'=A1k cx cy deep size A6:=by
  have:=A5v (X:=Zh Vp.prog tmL cl gl Q (fun _=>False) F False L lf xl) (B:=B) 1 (.agg (A1k cx cy deep size A6)) (.agg p') (by simp[Jb,Ct,A1k]) (.agg hp.1 hp.2)
  injection this
 obtain⟨c',cs'',rfl,hc,hcs⟩:∃c' cs'',cs'=c' :: cs''/\Dj (Zh Vp.prog tmL cl gl Q (fun _=>False) F False L lf xl) B c c'/\J7 (Zh Vp.prog tmL cl gl Q (fun _=>False) F False L lf xl) B cs cs'':=by
  cases hcs with
  | cons a b=>exact⟨_,_,rfl,a,b⟩
 have hbot:∀v,Cb (c.finish v) cs=(none,.normal):=fun v=>(Bu (C3 c v) (Ci c v) cs).trans hb
 have hN:Vp.prog.globals.size<=w.heap.size:=hw.nW
 rcases hV cx cy deep size A6 with⟨hh,hv⟩ |⟨d,n,px,py,bx,st,sm,ex,ey,rfl,rfl,hn8,hn0,C,hpl,hpt,hf1,hf2,hv⟩
 ·obtain⟨v,V',⟨rfl,hbl⟩,hsb⟩:=Zu hFi hway (Q:=fun v V'=>v=Age/\Below V.heap.size V V') ((hv V).mono fun e V' ⟨h1,h2⟩=>⟨_,h1,rfl,h2⟩)
  obtain⟨gs',w',sl',t',q',r,-,g0,gL,gP,hsz,hkept,htape,hos,hout⟩:=Acz hh (sl:=sl) hN h0 hL hP
  have hw':WR (Zh Vp.prog tmL cl gl Q (fun _=>False) F False L lf xl) B { V' with tape:=w'.tape,drawn:=w'.drawn } w' :=
   A6x hw (V':={ V' with tape:=w'.tape,drawn:=w'.drawn }) hbl.size (fun b hb=>hbl.block b hb) hsz hkept rfl rfl (by rw[hos,hw.os];exact hbl.os.symm) (by rw[hout,hw.output];exact hbl.output.symm)
  refine Ends.ran r (hsub _ hsb B w'.tape w'.drawn gs' w' sl' t' q' _ cs'' hw' (hc.finish ?_) hcs (hbot _) ?_ g0 gL gP)
  ·refine .tuple rfl fun i v v' x x'=>?_
   match i with
   | 0 =>
     cases x;cases x'
     refine .agg rfl fun i v v' x x'=>?_
     match i with
     | 0=>cases x;cases x';exact .complex _ _ _
     | 1=>cases x;cases x';exact .int _ _
     | 2=>cases x;cases x';exact .int _ _
     | 3=>cases x;cases x';exact .Iu _ _
     | 4=>cases x;cases x';exact .Iu _ _
     | i+5=>cases x
   | 1=>cases x;cases x';exact .bool _
   | i+2=>cases x
  ·exact⟨hkp.low,Am1 hkp.size hsz,fun x hx hs=>(hkept x (Am2 hx hkp.size)).trans (hkp.old x hx hs),htape.trans hkp.tape,⟨hos.trans hkp.os.1,hout.trans hkp.os.2⟩⟩
 ·obtain⟨v,V',⟨⟨gS,gM,rfl,l1,l2,l3,c1,c2⟩,hbl⟩,hsb⟩:=Zu hFi hway (Q:=fun v V'=>Vm cx cy d n (rowsOf n sm n) (rowsOf n st n) V.heap.size v V'/\Below V.heap.size V V') (hv V)
  obtain⟨gs',w',sl',t',q',v',r,-,g0,gL,gP,hsz,hkept,htape,hos,hout,⟨gS',gM',rfl,l1',l2',l3',c1',c2'⟩⟩:=A9j C hn8 hn0 hpl hpt hf1 hf2 (sl:=sl) hN h0 hL hP
  have hw':WR (Zh Vp.prog tmL cl gl Q (fun _=>False) F False L lf xl) B { V' with tape:=w'.tape,drawn:=w'.drawn } w' :=
   A6x hw (V':={ V' with tape:=w'.tape,drawn:=w'.drawn }) hbl.size (fun b hb=>hbl.block b hb) hsz hkept rfl rfl (by rw[hos,hw.os];exact hbl.os.symm) (by rw[hout,hw.output];exact hbl.output.symm)
  have hnF:∀g,V.heap.size<=g->¬F g:=fun g hg hf=>Aod _ (Am2 (hw.Qo g hf) hg)
  have hfl:∀(X:Cx) (x:Nat),Flat X (Db x):=fun X x B=>.float _ _
  have hil:∀(X:Cx) (x:Int),Flat X (By x):=fun X x B=>.int _ _
  have hw1:=Ad7 hw' (s:=gS) (s':=gS') (fun y h=>Aod _ (Am2 (hw.Wo h) l1)) (fun x h=>Aod _ (Am2 (hw.ltW h) l1')) c1 c1'
   (fun v hv=>by
    rw[An4,Anp]at hv;obtain⟨x,_,rfl⟩:=hv
    exact hfl _ x) id (hnF gS l1) (Am1 hw.nV l1) (Am1 hw.nW l1')
  have hw2:=Ad7 hw1 (s:=gM) (s':=gM') (fun y h=>h.elim (fun h=>Aod _ (Am2 (hw.Wo h) l2)) fun h=>l3 h.1.symm) (fun x h=>h.elim (fun h=>Aod _ (Am2 (hw.ltW h) l2')) fun h=>l3' h.2.symm) c2 c2'
   (fun v hv=>by
    rw[An4,Anp]at hv;obtain⟨x,_,rfl⟩:=hv
    exact hil _ x) id (hnF gM l2) (Am1 hw.nV l2) (Am1 hw.nW l2')
  have hle:Le B (fun b b'=>(B b b' \/(b=gS/\b'=gS')) \/(b=gM/\b'=gM')):=fun _ _ h=>.inl (.inl h)
  refine Ends.ran r (hsub _ hsb _ w'.tape w'.drawn gs' w' sl' t' q' _ cs'' hw2 ((hc.mono hle).finish (Aii (V:=V) hw.Qo l1 l2 (.inl (.inr ⟨rfl,rfl⟩)) (.inr ⟨rfl,rfl⟩))) (hcs.mono hle) (hbot _) ?_ g0 gL gP)
  refine⟨fun x y h hf=>?_,Am1 hkp.size hsz,fun x hx hs=>(hkept x (Am2 hx hkp.size)).trans (hkp.old x hx hs),htape.trans hkp.tape,⟨hos.trans hkp.os.1,hout.trans hkp.os.2⟩⟩
  rcases h with(h |⟨_,rfl⟩) |⟨_,rfl⟩
  ·exact hkp.low x y h hf
  ·exact .inl (Am1 hkp.size l1')
  ·exact .inl (Am1 hkp.size l2')
end
end
section
open Go.RowKit Go.Conc Co Ok Lr Tl Bar
def cutAt (W:World)(b:Nat)(C:Array Value)(t:TypeId)(n:Nat):World:={ W with heap:=W.heap.setIfInBounds b (.cells (C.extract 0 n) t (0,(C.extract 0 n).size)) }
section
variable {W : World} {b off : Nat} {C : Array Value} {t : TypeId} {fr : Nat × Nat} {xs : List Value} (hb : W.heap[b]? = some (.cells C t fr)) (hs : ∀ i v, xs[i]? = some v -> W.cell? ⟨b, off + i, none⟩ = some v)
include hb hs
theorem Aaf {tV:TypeId}:Sl (cutAt W b C tV (off+xs.length)) (some ⟨b,off,none⟩) xs:=by
 refine .inr ⟨b,off,rfl,fun i v hv=>?_⟩
 have h:=hs i v hv;have hlt:b<W.heap.size:=(Alx.1 hb).1;have hi:i<xs.length:=(Aor.1 hv).1;unfold World.cell? at h ⊢;rw[hb]at h
 have hc:(cutAt W b C tV (off+xs.length)).heap[b]?=some (.cells (C.extract 0 (off+xs.length)) tV (0,(C.extract 0 (off+xs.length)).size)):=by
  unfold cutAt;simp[hlt]
 rw[hc];have h:C[off+i]?=some v:=h
 show(C.extract 0 (off+xs.length))[off+i]?=some v
 rw[Array.getElem?_extract,Amo (by have:=(Alx.1 h).1;omega),Aqr]
 exact h
theorem Aab {i:Nat}{v:Value}(hi:off<=i)(h1:(C.extract 0 (off+xs.length))[i]?=some v):v∈xs/\C[i]?=some v:=by
 rw[Array.getElem?_extract]at h1
 split at h1
 ·rename_i hlt
  rw[Aqr]at h1
  have hj:i-off<xs.length:=by
   omega
  obtain⟨u,hu⟩:∃u,xs[i-off]?=some u:=⟨_,Amw hj⟩;have h:=hs (i-off) u hu;unfold World.cell? at h;rw[hb]at h;have h:C[off +(i-off)]?=some u:=h;rw[Nat.add_sub_cancel' hi,h1]at h
  cases h
  exact⟨Aob hu,h1⟩
 ·cases h1
theorem A5u {X:Cx}(hx:∀v∈xs,Flat X v){B:Lk}:PR X B off (C.extract 0 (off+xs.length)) C:=by
 refine⟨by rw[Array.size_extract];omega,fun i v v' hi h1 h2=>?_⟩
 obtain⟨h3,h4⟩:=Aab hb hs hi h1;rw[h4]at h2
 cases h2
 exact hx _ h3 B
end
abbrev tNo:TypeId:=1000000007
theorem Aif:Vp.prog.info? tNo=none:=by kernel_rfl
theorem Ad6 {X:Cx}{B:Lk}{V W:World}(h:WR X B V W):WR X B { V with tape:=W.tape,drawn:=W.drawn } W:=by
 have h1:=h.tape;have h2:=h.drawn;rw[h1,h2]
 exact h
end
namespace Ok
open Go.Conc Lr
def A3r:List Nat:=[105,171,212,61,191]
theorem Ajq (tl:List (Nat×Nat))(cl gl:List Nat):L8 Vp.prog tl cl gl 105:=Ih (fn:=Tryz.f105) (by kernel_rfl) (by kernel_rfl) (by kernel_rfl) (by kernel_rfl) (e:=Extern.AbiNoEscape.same) (by kernel_rfl) (.inr (.inr (.inr (.inr (.inr (.inl rfl))))))
theorem Ajr (tl:List (Nat×Nat))(cl gl:List Nat):L8 Vp.prog tl cl gl 171:=Ih (fn:=Tryz.f171) (by kernel_rfl) (by kernel_rfl) (by kernel_rfl) (by kernel_rfl) (e:=Extern.BytealgIndexByte.indexByte) (by kernel_rfl) (.inr (.inr (.inr (.inr (.inl rfl)))))
theorem Ajs (tl:List (Nat×Nat))(cl gl:List Nat):L8 Vp.prog tl cl gl 212:=Ih (fn:=Tryz.f212) (by kernel_rfl) (by kernel_rfl) (by kernel_rfl) (by kernel_rfl) (e:=Extern.BytealgCount.count) (by kernel_rfl) (.inr (.inr (.inr (.inl rfl))))
theorem Ajt (tl:List (Nat×Nat))(cl gl:List Nat):L8 Vp.prog tl cl gl 61:=Ih (fn:=Tryz.f61) (by kernel_rfl) (by kernel_rfl) (by kernel_rfl) (by kernel_rfl) (e:=Extern.MathFloatBits.float32bits) (by kernel_rfl) (.inr (.inr (.inr (.inr (.inr (.inr (.inl rfl)))))))
theorem Aju (tl:List (Nat×Nat))(cl gl:List Nat):L8 Vp.prog tl cl gl 191:=Ih (fn:=Tryz.f191) (by kernel_rfl) (by kernel_rfl) (by kernel_rfl) (by kernel_rfl) (e:=Extern.BytealgMakeNoZero.makeNoZero #[3] #[22]) (by kernel_rfl) (.inr (.inr (.inr (.inr (.inr (.inr (.inr ⟨_,_,rfl⟩)))))))
theorem Xi {tl:List (Nat×Nat)}{cl gl:List Nat}(h:(cl.filter fun f=>!((ext++A3r).contains f)).all (chk Vp.prog tl cl gl)=true):∀f∈cl,L8 Vp.prog tl cl gl f:=by
 intro f hf
 by_cases hx:(ext++A3r).contains f=true
 ·have hx:f∈ext++A3r:=by simpa using hx
  simp only[ext,A3r,An9,Ant,An7,An6,Ap5]at hx
  rcases hx with rfl|rfl|rfl|rfl|rfl|rfl|rfl|rfl|rfl
  ·exact Ajm _ _ _
  ·exact Ajn _ _ _
  ·exact Ajo _ _ _
  ·exact Ajp _ _ _
  ·exact Ajq _ _ _
  ·exact Ajr _ _ _
  ·exact Ajs _ _ _
  ·exact Ajt _ _ _
  ·exact Aju _ _ _
 ·refine A60 ?_
  rw[Aoa]at h
  exact h f (List.mem_filter.2 ⟨hf,by simpa using hx⟩)
end Ok
section
open Go.RowKit Go.Conc Co Ok Lr Tl Bar
structure Agk (cl gl:List Nat)(f:Nat)(tail:Code):Prop where
 Alb:(cl.filter fun f=>!((ext++A3r).contains f)).all (chk Vp.prog tmL cl gl)=true
 Alc:((17 :: cl).filter fun f=>!((ext++A3r).contains f)).all (chk Vp.prog [] (17 :: cl) gl)=true
 not:cl.contains 17=false
 whl:cl.all (fun f=>!(Vp.Lt.contains f))=true
 tT:Fa Vp.prog tmL cl gl tail=true
 tV:Fa Vp.prog [] (17 :: cl) gl tail=true
 ini:Tryz.prog.inits.idxOf? f=none
noncomputable abbrev cT (cl gl:List Nat):Cx:=Zh Vp.prog tmL cl gl (fun _ _=>False) (fun _=>False) (fun _=>False) False (fun _=>0) (fun _ h=>absurd rfl h) (fun _ _ h=>h)
noncomputable abbrev cV (cl gl:List Nat):Cx:=Zh Vp.prog [] (17 :: cl) gl (fun _ _=>False) (fun _=>False) (fun _=>False) False (fun _=>0) (fun _ h=>absurd rfl h) (fun _ _ h=>h)
section
variable {cl gl : List Nat} {f : Nat} {tail : Code} (R : Agk cl gl f tail)
include R
theorem Afi:Whole (cT cl gl) Vp.prog Tryz.prog :=
 P7 O8 Vp.Gb.symm Vp.size.symm (fun f hf=>by
  have ht:f≠17:=fun e=>by
   subst e;have:=R.not;rw[Bool.eq_false_iff]at this
   exact this (by simpa using hf)
  have hw:=Aoa.1 R.whl f hf
  exact⟨Xi R.Alb f hf,fun n hn=>by simp only[Ap6,Prod.mk.injEq]at hn;exact ht hn.1,A6k ht (by simpa using hw)⟩)
 (fun f ⟨n,hn⟩=>by
  simp only[Ap6,Prod.mk.injEq]at hn;obtain⟨rfl,_⟩:=hn
  exact⟨Vp.fT,Tryz.f17,Vp.Pj,Tryz.func17,by kernel_rfl,by kernel_rfl,by kernel_rfl,by kernel_rfl,by kernel_rfl⟩)
 Za fun g h=>⟨id,rfl⟩
theorem Afj:Whole (cV cl gl) Vp.prog Vp.prog :=
 Xc O8 rfl rfl (fun f hf=>⟨Xi R.Alc f hf,(fun n hn=>by cases hn),rfl⟩) (fun f ⟨n,hn⟩=>by cases hn) (fun f=>.inl rfl) fun g h=>⟨id,rfl⟩
theorem Aku:CdR (cT cl gl) tail tail:=Cz (X:=cT cl gl) (P:=Vp.prog) (tl:=tmL) (cl:=cl) (gl:=gl) (fun f h=>⟨.inl h,fun⟨n,hn⟩=>by
 simp only[Ap6,Prod.mk.injEq]at hn;obtain⟨rfl,_⟩:=hn;have:=R.not;rw[Bool.eq_false_iff]at this
 exact this (by simpa using h)⟩) (fun g h=>h) (fun o h=>h) tail R.tT
theorem Akv:CdR (cV cl gl) tail tail:=Cz (X:=cV cl gl) (P:=Vp.prog) (tl:=[]) (cl:=17 :: cl) (gl:=gl) (fun f h=>⟨.inl h,fun⟨n,hn⟩=>by cases hn⟩) (fun g h=>h) (fun o h=>h) tail R.tV
end
def idX (S:Nat->Prop):Lk:=fun x y=>S x/\y=x
theorem A6y {X:Cx}{S:Nat->Prop}{W:World}(hN:X.N<=W.heap.size)(hF:∀x,¬X.F x)(hG:∀x,X.G x->S x)(hD:∀x,¬X.D x)
 (hS:∀x,S x->∃c t f,W.heap[x]?=some (.cells c t f)/\∀v∈c,Flat X v):WR X (idX S) W W:=by
 refine⟨rfl,rfl,rfl,rfl,?_,?_,fun g h=>⟨hG g h,rfl⟩,?_,fun x y _ _ h=>absurd h (hF x),fun x y _ h=>absurd h (hD x),fun x h=>absurd h (hD x),fun x h=>absurd h (hF x),?_,hN,hN⟩
 ·rintro x y z ⟨_,rfl⟩ ⟨_,rfl⟩
  rfl
 ·rintro x y z ⟨_,rfl⟩ ⟨_,h⟩
  exact h
 ·rintro x y ⟨hs,rfl⟩ _ _;obtain⟨c,t,f,h1,h2⟩:=hS _ hs
  refine⟨_,_,h1,h1,.cells t f ⟨rfl,fun i v v' a b=>?_⟩⟩
  rw[a]at b
  cases b
  exact h2 v (Amp a) _
 ·rintro x y ⟨_,rfl⟩
  exact Iff.rfl
section
variable {cl gl : List Nat} {f : Nat} {tail : Code} (R : Agk cl gl f tail)
include R
theorem Aal (hV:Adf){fnV:Func}(hfn:Vp.prog.funcs[f]?=some fnV)(hbd:fnV.body=some tail){T:Array Value}(hT:T.size=fnV.ntmps){w0 w:World}{bs:Nat->Prop}
 (hN:Vp.prog.globals.size<=w.heap.size) (hm:w0.heap.size<=w.heap.size) (hold:∀x,x<w0.heap.size->w.heap[x]?=w0.heap[x]?) (htape:w.tape=w0.tape) (hos:w.os=w0.os/\w.output=w0.output) (hbm:∀x,bs x->w0.heap.size<=x)
 (hS:∀x,(x∈gl\/bs x)->∃c t f,w.heap[x]?=some (.cells c t f)/\∀v∈c,∃k n,v=.int k n)
 {gs:Array Goroutine} {sl:Option (Nat×Nat)} {t:Trace} {q:Nat->Nat} {b:Frame} {a:Act} (h0:gs[0]?=some (G (b.at a [.code tail]) [])) (hk:b.kind=.normal) (hbf:b.fn=f) (ha:a.defers=[])
 (hTT:∀X:Cx,X.Ex->X.D=(fun _=>False) ->(∀n,X.L n=0)->AR X (idX fun x=>x∈gl\/bs x) T a.tmps) (hTV:∀X:Cx,X.D=(fun _=>False) ->(∀n,X.L n=0)->AR X (idX fun x=>x∈gl\/bs x) T T)
 (hex:Ji Vp.prog gl=true) (hL:Leavers Tryz.prog t gs q) (hP:Past (fun _=>False) w.heap.size t)
 (hc:∀τ d,Calls Vp.prog f T { w with tape:=τ,drawn:=d } fun e w'=>e=.returned (.bool true)/\∀x∈gl,w'.heap[x]?=w.heap[x]?) :
 Co.Ends Tryz.prog (fun v w'=>v=.bool true/\Below w0.heap.size w0 w') gs w sl t:=by
 have hTX:=Afi R;have hVX:=Afj R;have hi:∀(X:Cx) (v:Value),(∃k n,v=.int k n)->Flat X v:=fun X v ⟨k,n,e⟩ B=>e▸.int k n
 have hwT:WR (cT cl gl) (idX fun x=>x∈gl\/bs x) w w:=A6y hN (fun _ h=>h) (fun x h=>.inl h) (fun _ h=>h) fun x hx=>by
  obtain⟨c,t,f,h1,h2⟩:=hS x hx
  exact⟨c,t,f,h1,fun v hv=>hi _ v (h2 v hv)⟩
 have hwV:WR (cV cl gl) (idX fun x=>x∈gl\/bs x) w w:=A6y hN (fun _ h=>h) (fun x h=>.inl h) (fun _ h=>h) fun x hx=>by
  obtain⟨c,t,f,h1,h2⟩:=hS x hx
  exact⟨c,t,f,h1,fun v hv=>hi _ v (h2 v hv)⟩
 obtain⟨b0,hent,hk0,hf0⟩:∃b0:Frame,Frame.enter Vp.prog f T .normal=b0.at ⟨T,[]⟩ [.code tail]/\b0.kind=.normal/\b0.fn=f:=by
  refine⟨{ fn:=f,tmps:=#[],todo:=[],defers:=[],mode:=.run,kind:=.normal },?_,rfl,rfl⟩
  unfold Frame.enter;rw[hfn];simp only[Ao6,Aqn,Ao9,hbd,<-hT,Nat.sub_self,Aos,Array.append_empty]
  rfl
 have hfT:Dj (cT cl gl) (idX fun x=>x∈gl\/bs x) (Frame.enter Vp.prog f T .normal) (b.at a [.code tail]):=by
  rw[hent]
  exact E3 (hTT _ hex rfl fun _=>rfl) (by rw[ha];exact .nil) (.cons (.code (Aku R)) .nil) (hk.trans hk0.symm) (hbf.trans hf0.symm)
 have hfV:Dj (cV cl gl) (idX fun x=>x∈gl\/bs x) (Frame.enter Vp.prog f T .normal) (Frame.enter Vp.prog f T .normal):=by
  rw[hent]
  exact E3 (hTV _ rfl fun _=>rfl) .nil (.cons (.code (Akv R)) .nil) rfl rfl
 have noT:∀f,¬(cV cl gl).T f:=fun f ⟨n,hn⟩=>by cases hn
 have hway:=Aij hVX noT (Q:=fun v w'=>v=.bool true/\∀x∈gl,w'.heap[x]?=w.heap[x]?) (fun _ _ _ _ h=>h) (f:=f) (args:=T) (V:=w) ⟨_,w,_,_,hwV,hfV,.nil,rfl,.inl rfl⟩ fun τ d=>(hc τ d).mono fun e w' ⟨h1,h2⟩=>by
  subst h1
  exact⟨rfl,h2⟩
 have hs:=sim (Post:=fun v w'=>v=.bool true/\Below w0.heap.size w0 w') (m0:=w0.heap.size) (w0:=w0) (S:=fun x=>x∈gl) hTX (Q:=fun v w'=>v=.bool true/\∀x∈gl,w'.heap[x]?=w.heap[x]?) (Abn hV (fun x hx=>Fin.pop hx.1) _ _ _ _) (fun _ _ _ _ h=>h) (fun x hx=>⟨hx.1,by rw[hx.2];exact R.ini⟩)
  (fun B V v v' W hv hvv hw hkp=>by
   obtain⟨rfl,hv2⟩:=hv
   cases hvv
   refine⟨rfl,⟨hkp.os.1,hkp.tape,hkp.os.2,hkp.size,fun x hx=>?_⟩⟩
   by_cases hg:x∈gl
   ·have hb:=hw.G8 x hg;obtain⟨o,o',h1,h2,h3⟩:=hw.live x x hb id id;obtain⟨c,t,f,g1,g2⟩:=hS x (.inl hg);rw[hv2 x hg,g1]at h1
    cases h1
    cases h3 with
    | @cells _ c' _ _ har =>
      have e:c'=c:=by
       refine Ank fun i=>?_
       rcases har.get i with⟨v,v',q1,q2,q3⟩ |⟨q1,q2⟩
       ·obtain⟨k,n,rfl⟩:=g2 v (Amp q1)
        cases q3
        rw[q1,q2]
       ·rw[q1,q2]
      rw[h2,e,<-hold x hx,g1]
   ·exact hkp.old x hx hg) hway
 refine hs (idX fun x=>x∈gl\/bs x) w.tape w.drawn gs w sl t q _ [] (Ad6 hwT) hfT .nil rfl ⟨?_,hm,fun x hx _=>hold x hx,htape,hos⟩ h0 hL hP
 rintro x y ⟨hx,rfl⟩ _
 rcases hx with hx|hx
 ·exact .inr hx
 ·exact .inl (hbm _ hx)
end
end
section
open Go.RowKit Go.Conc Co Ok Lr Tl Bar
structure Adc (cl:List Nat)(c0 c1 c2:Code):Prop where
 chk:(cl.filter fun f=>!((ext++A3r).contains f)).all (chk Vp.prog [] cl [])=true
 not:cl.contains 17=false
 whl:cl.all (fun f=>!(Vp.Lt.contains f))=true
 c0:Fa Vp.prog [] cl [] c0=true
 c1:Fa Vp.prog [] cl [] c1=true
 c2:Fa Vp.prog [] cl [] c2=true
def Agj (tail:Code)(why:String)(d:Code):Prop:=why = "tail" /\ d=tail
theorem Ak9 {P:Program}{p:Prop}(h:Ji P []=true):p:=by simp[Ji]at h
noncomputable abbrev cD (cl:List Nat)(tail:Code)(F:Nat->Prop)(L:Nat->Nat)(lf:∀b,L b≠0->F b):Cx:=Zh Vp.prog [] cl [] (Agj tail) (fun _=>False) F True L lf (fun h=>Ak9 h)
section
variable {cl : List Nat} {c0 c1 c2 tail : Code} (R : Adc cl c0 c1 c2) {F : Nat -> Prop} {L : Nat -> Nat} {lf : ∀ b, L b ≠ 0 -> F b}
include R
theorem Ad4:Whole (cD cl tail F L lf) Vp.prog Tryz.prog :=
 P7 O8 Vp.Gb.symm Vp.size.symm (fun f hf=>by
  have ht:f≠17:=fun e=>by
   subst e;have:=R.not;rw[Bool.eq_false_iff]at this
   exact this (by simpa using hf)
  have hw:=Aoa.1 R.whl f hf
  exact⟨Xi R.chk f hf,fun n hn=>(by cases hn),A6k ht (by simpa using hw)⟩)
 (fun f ⟨n,hn⟩=>by cases hn) Za fun g h=>by cases h
theorem Alm:CdR (cD cl tail F L lf) (.seq c0 (.seq c1 (.seq c2 (.refuse "tail")))) (.seq c0 (.seq c1 (.seq c2 tail))):=by
 have one:∀c,Fa Vp.prog [] cl [] c=true->CdR (cD cl tail F L lf) c c:=fun c h=>Cz (X:=cD cl tail F L lf) (P:=Vp.prog) (tl:=[]) (cl:=cl) (gl:=[]) (fun f h=>⟨.inl h,fun⟨n,hn⟩=>by cases hn⟩) (fun g h=>h) (fun o h=>h) c h
 exact⟨_,_,rfl,one _ R.c0,_,_,rfl,one _ R.c1,_,_,rfl,one _ R.c2,.inr ⟨rfl,rfl⟩⟩
end
def Hu (W:World):Prop:=∀b C t fr,b<Vp.prog.globals.size->W.heap[b]?=some (.cells C t fr)->∀v∈C,∀X:Cx,Flat X v
theorem A71 {a:Option Addr}{c:Nat}{bs:List UInt8}{W0:World}(hN:Vp.prog.globals.size<=W0.heap.size)(hL:Hu W0)(hs:Sl W0 a (bs.map Cp))
 (hblk:∀x,a=some x->∃b off C t fr,x=⟨b,off,none⟩/\W0.heap[b]?=some (.cells C t fr)) :
 ∃(V0:World) (F:Nat->Prop) (L:Nat->Nat) (_:∀b,L b≠0->F b) (B:Lk),(∀x y,B x y->F x) /\(∀x y,B x y->y<W0.heap.size)/\V0.heap.size=W0.heap.size /\(∀τ d,Sl { V0 with tape:=τ,drawn:=d } a (bs.map Cp)) /\
  ∀X:Cx,X.N=Vp.prog.globals.size ->(∀g,¬X.G g) ->(∀g,¬X.D g)->X.F=F->X.L=L->X.Mv=mvP Vp.prog ->(∀t,Vp.prog.info? t=none->X.Z t)->WR X B V0 W0/\AR X B #[.slice a bs.length c] #[.slice a bs.length c]:=by
 cases a with
 | none =>
   refine⟨W0,fun _=>False,fun _=>0,fun _ h=>absurd rfl h,fun _ _=>False,fun _ _ h=>h.elim,fun _ _ h=>h.elim,rfl,fun τ d=>hs,fun X h1 h2 h3 h4 _ _ _=>⟨?_,AR.one (.Iu _ _)⟩⟩
   exact⟨rfl,rfl,rfl,rfl,fun _ _ _ h=>h.elim,fun _ _ _ h=>h.elim,fun g h=>absurd h (h2 g),fun _ _ h=>h.elim,fun _ _ h=>h.elim,fun _ _ h=>h.elim,fun b h=>absurd h (h3 b),fun b h=>by rw[h4]at h;exact h.elim,fun _ _ h=>h.elim,by rw[h1];exact hN,by rw[h1];exact hN⟩
 | some x =>
   obtain⟨b,off,C,t,fr,rfl,hb⟩:=hblk x rfl;have hlt:b<W0.heap.size:=(Alx.1 hb).1
   have hs':∀i v,(bs.map Cp)[i]?=some v->W0.cell? ⟨b,off+i,none⟩=some v:=by
    rcases hs with h |⟨b',off',e,h⟩
    ·intro i v hv;rw[h]at hv;simp at hv
    ·cases e
     exact h
   have hfl:∀(X:Cx) (v:Value),v∈bs.map Cp->Flat X v:=fun X v hv B=>by
    obtain⟨x,_,rfl⟩:=Anp.1 hv
    exact .int _ _
   obtain⟨n0,l0,tV,hl0,hsl,hpr,hty⟩:∃(n0 l0:Nat) (tV:TypeId),l0<=off /\(∀τ d,Sl { cutAt W0 b C tV n0 with tape:=τ,drawn:=d } (some ⟨b,off,none⟩) (bs.map Cp)) /\(∀(X:Cx) (B:Lk),PR X B l0 (C.extract 0 n0) C) /\
    (∀X:Cx,X.N=Vp.prog.globals.size->X.L b=l0 ->(∀t,Vp.prog.info? t=none->X.Z t)->∀n,TyR X b tV t n):=by
    by_cases hg:b<Vp.prog.globals.size
    ·have e:C.extract 0 C.size=C:=by simp
     have hc:(cutAt W0 b C t C.size).heap[b]?=some (.cells C t (0,C.size)):=by
      unfold cutAt;simp[hlt]
     refine⟨C.size,0,t,Amu _,fun τ d=>.inr ⟨b,off,rfl,fun i v hv=>?_⟩,fun X B=>?_,fun X h1 h2 _ n=>.inr ⟨.inl h2,rfl,.inl h2⟩⟩
     ·have h:=hs' i v hv;unfold World.cell? at h ⊢;rw[hb]at h;rw[show({ cutAt W0 b C t C.size with tape:=τ,drawn:=d }:World).heap[b]?=some (.cells C t (0,C.size))from hc]
      exact h
     ·rw[e]
      refine⟨Am0 _,fun i v v' _ h1 h2=>?_⟩
      rw[h1]at h2
      cases h2
      exact hL b C t fr hg hb v (Amp h1) X B
    ·by_cases h0:off=0
     ·exact⟨_,off,t,Am0 _,fun τ d=>Aaf hb hs',fun X B=>A5u hb hs' (hfl _),fun X h1 h2 _ n=>.inr ⟨.inl (h2.trans h0),rfl,.inl (h2.trans h0)⟩⟩
     ·exact⟨_,off,tNo,Am0 _,fun τ d=>Aaf hb hs',fun X B=>A5u hb hs' (hfl _),fun X h1 h2 h3 n=>.inl ⟨by rw[h2];exact h0,by rw[h1];exact Nat.le_of_not_lt hg,h3 _ Aif⟩⟩
   have hlf:∀x,(if x=b then l0 else 0)≠0->x=b:=fun x h=>by
    by_cases e:x=b
    ·exact e
    ·rw[Amd e]at h
     exact absurd rfl h
   have hc0:(cutAt W0 b C tV n0).heap[b]?=some (.cells (C.extract 0 n0) tV (0,(C.extract 0 n0).size)):=by
    unfold cutAt;simp[hlt]
   have hsz:(cutAt W0 b C tV n0).heap.size=W0.heap.size:=by
    unfold cutAt;simp
   refine⟨cutAt W0 b C tV n0,fun x=>x=b,fun x=>if x=b then l0 else 0,hlf,fun x y=>x=b/\y=b,fun _ _ h=>h.1,fun x y h=>h.2▸hlt,hsz,hsl,fun X h1 h2 h3 h4 h5 h6 hz=>⟨?_,?_⟩⟩
   ·have h4':∀g,X.F g↔g=b:=fun g=>by rw[h4]
    have h5':X.L b=l0:=by rw[h5];exact Amo rfl
    refine⟨rfl,rfl,rfl,rfl,?_,?_,fun g h=>absurd h (h2 g),?_,?_,fun x y _ h=>absurd h (h3 x),fun x h=>absurd h (h3 x),fun x h=>?_,?_,?_,?_⟩
    ·rintro x y z ⟨_,rfl⟩ ⟨_,rfl⟩
     rfl
    ·rintro x y z ⟨rfl,_⟩ ⟨rfl,_⟩
     rfl
    ·rintro x y ⟨rfl,rfl⟩ _ hn
     exact absurd ((h4' _).2 rfl) hn
    ·rintro x y ⟨hx,hy⟩ _ _;rw[hx,hy]
     exact⟨_,C,tV,t,fr,hc0,hb,by rw[h5'];exact hpr _ _,hty X h1 h5' hz _⟩
    ·rw[(h4' x).1 h,hsz]
     exact hlt
    ·rintro x y ⟨rfl,rfl⟩
     exact Iff.rfl
    ·rw[hsz,h1]
     exact hN
    ·rw[h1]
     exact hN
   ·exact AR.one (.slice _ _ ⟨⟨⟨rfl,rfl⟩,h3 _⟩,⟨rfl,by rw[h5];exact Am1 (Aof (Amo rfl)) hl0⟩,rfl⟩)
def A9q (D:Array Value->World->Prop)(t:List Item)(a:Act)(V:World):Prop:=t=[.code (.refuse "tail")]/\a.defers=[]/\D a.tmps V
section
variable {cl : List Nat} {c0 c1 c2 tail : Code} (R : Adc cl c0 c1 c2)
include R
theorem A6e {f:Nat}{fnW:Func}(hfn:Tryz.prog.funcs[f]?=some fnW)(hbd:fnW.body=some (.seq c0 (.seq c1 (.seq c2 tail)))){a:Option Addr}{c:Nat}{bs:List UInt8}{W0:World}(hN:Vp.prog.globals.size<=W0.heap.size)(hL:Hu W0)(hs:Sl W0 a (bs.map Cp))
 (hblk:∀x,a=some x->∃b off C t fr,x=⟨b,off,none⟩/\W0.heap[b]?=some (.cells C t fr)) {H:Nat->List Item->Act->World->Prop} (hH:∀n t a V τ d,H n t a V->H n t a { V with tape:=τ,drawn:=d })
 (hpre:∀V,Sl V a (bs.map Cp)->HW Vp.prog [.code (.seq c0 (.seq c1 (.seq c2 (.refuse "tail"))))] (H V.heap.size) ⟨#[.slice a bs.length c]++Array.replicate (fnW.ntmps-1) undef,[]⟩ V) :
 ∃(gs:Array Goroutine) (w:World) (sl:Option (Nat×Nat)) (t:Trace) (q:Nat->Nat) (fr':Frame),Ia Tryz.prog #[G (Frame.enter Tryz.prog f #[.slice a bs.length c] .normal) []] W0 none #[] gs w sl t/\gs[0]?=some (G fr' []) /\
  Leavers Tryz.prog t gs q/\Past (fun _=>False) w.heap.size t/\W0.heap.size<=w.heap.size /\(∀x,x<W0.heap.size->w.heap[x]?=W0.heap[x]?)/\w.tape=W0.tape /\(w.os=W0.os/\w.output=W0.output) /\
  ∃(F:Nat->Prop) (L:Nat->Nat) (lf:∀b,L b≠0->F b) (B:Lk) (V:World) (b0:Frame) (s1:List Item) (a1:Act),b0.kind=.normal/\b0.fn=f /\(∀x,W0.heap.size<=x->¬F x/\L x=0) /\(∀x y,B x y ->(F x/\y<W0.heap.size) \/(W0.heap.size<=x/\W0.heap.size<=y))/\WR (cD cl tail F L lf) B V w/\Dj (cD cl tail F L lf) B (b0.at a1 s1) fr'/\H W0.heap.size s1 a1 V:=by
 obtain⟨V0,F,L,lf,B,hBF,hBl,hsz,hsl,hst⟩:=A71 (c:=c) hN hL hs hblk;obtain⟨hwr,har⟩:=hst (cD cl tail F L lf) rfl (fun g h=>by cases h) (fun _=>id) rfl rfl rfl (fun _=>id)
 have hW:=Ad4 (tail:=tail) R (F:=F) (L:=L) (lf:=lf)
 obtain⟨b0,hent,hk0,hf0⟩:∃b0:Frame,Frame.enter Tryz.prog f #[.slice a bs.length c] .normal=b0.at ⟨#[.slice a bs.length c]++Array.replicate (fnW.ntmps-1) undef,[]⟩ [.code (.seq c0 (.seq c1 (.seq c2 tail)))]/\b0.kind=.normal/\b0.fn=f:=by
  refine⟨{ fn:=f,tmps:=#[],todo:=[],defers:=[],mode:=.run,kind:=.normal },?_,rfl,rfl⟩
  unfold Frame.enter;rw[hfn];simp only[Ao6,Aqn,Ao9,hbd]
  rfl
 have hT:AR (cD cl tail F L lf) B (#[.slice a bs.length c]++Array.replicate (fnW.ntmps-1) undef) (#[.slice a bs.length c]++Array.replicate (fnW.ntmps-1) undef):=AR.append har (AR.replicate _ Du)
 have hf:Dj (cD cl tail F L lf) B (b0.at ⟨#[.slice a bs.length c]++Array.replicate (fnW.ntmps-1) undef,[]⟩ [.code (.seq c0 (.seq c1 (.seq c2 (.refuse "tail"))))]) (Frame.enter Tryz.prog f #[.slice a bs.length c] .normal):=by
  rw[hent]
  exact E3 hT .nil (.cons (.code (Alm R)) .nil) rfl rfl
 have st:=Jr (m:=true) (base:=[]) hW (fun f ⟨n,hn⟩=>by cases hn) (H:=H W0.heap.size) (b:=b0) (fun t a w τ d h=>hH _ _ _ _ _ _ h) hwr hf (fun τ d=>by
  have h:=hpre { V0 with tape:=τ,drawn:=d } (hsl τ d)
  rw[show({ V0 with tape:=τ,drawn:=d }:World).heap.size=W0.heap.size from hsz]at h
  exact h) (.inl (by rw[hk0]))
 have hhot:∀x,¬Ew (cD cl tail F L lf) B x:=fun x ⟨y,h1,_,h3⟩=>h3 (hBF _ _ h1)
 obtain⟨N,gs',fr',cs',w',W',sl',t',q',L',k1,k2,k3,k4,k5,k6,k7,k8⟩:=A7d st #[G (Frame.enter Tryz.prog f #[.slice a bs.length c] .normal) []] W0 none #[] (fun _=>0) (by simp) (At _ _ _) (fun b ⟨x,h1,_⟩=>hwr.ltW h1) (leavers_one _ _) (past_nil.mono (Amu _))
 obtain⟨B1,x,τ,d,g1,⟨g2,s1,a1,g3,g4⟩,g7,g8,g9,rfl,g10,g11⟩:=k4.rely (fun B1 hB1 hL1=>by
  funext y
  apply propext
  constructor
  ·rintro⟨z,h1,h2,h3⟩
   rcases hB1.2 z y h1 with h |⟨h,_⟩
   ·exact⟨z,h,h2,h3⟩
   ·exact absurd (hwr.Qo z h3) (by omega)
  ·rintro⟨z,h1,h2,h3⟩
   exact⟨z,hB1.1 _ _ h1,h2,h3⟩) k5
 rw[g2]at g9
 cases g9
 rw[g3]at g8
 refine⟨gs',w',sl',t',q',fr',⟨N,k1⟩,by rw[k3,Aqu],k6,k7,k8.size,fun y hy=>k8.kept y hy (hhot y),k8.tape,k8.os,F,L,lf,B1,(x.at τ d).V,b0,s1,a1,hk0,hf0,fun y hy=>?_,fun y z h=>?_,g7,g8,hH _ _ _ _ _ _ g4⟩
 ·have:¬F y:=fun h=>absurd (hwr.Qo y h) (by rw[hsz];omega)
  exact⟨this,Anm fun h=>this (lf y h)⟩
 ·rcases g1.2 y z h with h |⟨h1,h2⟩
  ·exact .inl ⟨hBF _ _ h,hBl _ _ h⟩
  ·rw[hsz]at h1
   exact .inr ⟨h1,h2⟩
theorem Aaj {f:Nat}{fnW:Func}(hfn:Tryz.prog.funcs[f]?=some fnW)(hbd:fnW.body=some (.seq c0 (.seq c1 (.seq c2 tail)))){a:Option Addr}{c:Nat}{bs:List UInt8}{W0:World}(hN:Vp.prog.globals.size<=W0.heap.size)(hL:Hu W0)(hs:Sl W0 a (bs.map Cp))
 (hblk:∀x,a=some x->∃b off C t fr,x=⟨b,off,none⟩/\W0.heap[b]?=some (.cells C t fr)) {D:Nat->Array Value->World->Prop} (hD:∀n T V τ d,D n T V->D n T { V with tape:=τ,drawn:=d })
 (hpre:∀V,Sl V a (bs.map Cp)->HW Vp.prog [.code (.seq c0 (.seq c1 (.seq c2 (.refuse "tail"))))] (A9q (D V.heap.size)) ⟨#[.slice a bs.length c]++Array.replicate (fnW.ntmps-1) undef,[]⟩ V) :
 ∃(gs:Array Goroutine) (w:World) (sl:Option (Nat×Nat)) (t:Trace) (q:Nat->Nat) (b:Frame) (aW:Act),Ia Tryz.prog #[G (Frame.enter Tryz.prog f #[.slice a bs.length c] .normal) []] W0 none #[] gs w sl t/\gs[0]?=some (G (b.at aW [.code tail]) [])/\b.kind=.normal/\b.fn=f/\aW.defers=[] /\
  Leavers Tryz.prog t gs q/\Past (fun _=>False) w.heap.size t/\W0.heap.size<=w.heap.size /\(∀x,x<W0.heap.size->w.heap[x]?=W0.heap[x]?)/\w.tape=W0.tape /\(w.os=W0.os/\w.output=W0.output) /\
  ∃(X:Cx) (B:Lk) (V:World) (T:Array Value),¬X.Ex /\(∀x,¬X.D x) /\(∀x,W0.heap.size<=x->¬X.F x/\X.L x=0) /\(∀x y,B x y ->(X.F x/\y<W0.heap.size) \/(W0.heap.size<=x/\W0.heap.size<=y))/\WR X B V w/\AR X B T aW.tmps/\D W0.heap.size T V:=by
 obtain⟨gs,w,sl,t,q,fr',k1,k3,k6,k7,k8,k9,k10,k11,F,L,lf,B,V,b0,s1,a1,hk0,hf0,hF,hB,hw,g8,g4,g5,g6⟩:=A6e R hfn hbd hN hL hs hblk (H:=fun n=>A9q (D n)) (fun n t a w τ d ⟨h1,h2,h3⟩=>⟨h1,h2,hD _ _ _ _ _ h3⟩) hpre
 subst g4;obtain⟨e1,har1,hds,htd,hk,hfn1⟩:=Gm g8;obtain⟨dd,k',etd,⟨_,hdd⟩,hk'⟩:=Kz htd (by decide)
 rw[hdd]at etd
 cases hk'
 rw[g5]at hds;have hfd:fr'.defers=[]:=by generalize fr'.defers=q at hds;cases hds;rfl
 exact⟨gs,w,sl,t,q,fr',⟨fr'.tmps,fr'.defers⟩,k1,by rw[k3,<-etd,<-e1],hk.trans hk0,hfn1.trans hf0,hfd,k6,k7,k8,k9,k10,k11,cD cl tail F L lf,B,V,a1.tmps,fun h=>Ak9 h,fun _=>id,hF,hB,hw,har1,g6⟩
def A9r (s:List Item)(a:Act)(V:World)(k:Nat):Prop:=(∃r,s=.code .ret :: r)/\a.defers=[]/\a.tmps[k]?=some (.bool true)
end
end
namespace Vsh
open Go Go.Shelf Go.Proofs
set_option linter.all false
def A1f:Go.Shelf.Ren:=⟨fun|103=>154|210=>186|206=>213|n=>n,fun|9=>9|4=>4|24=>195|3=>3|n=>n,fun|n=>n⟩
theorem Aea:Go.Proofs.Lays.n103 Vp.prog A1f:={
 mixed:=by kernel_rfl
 f103:=Vp.func154.trans (congrArg some (by kernel_rfl))
 f206:=Vp.func213.trans (congrArg some (by kernel_rfl))
 f210:=Vp.func186.trans (congrArg some (by kernel_rfl))
 t3:=Vp.Bl Tryz.underlying3
 a3:=fun w=>(Vp.A4 3 w).trans (Tryz.isAgg3 w)
 z3:=fun w=>(Vp.run_sizeOf 3 w).trans (Tryz.sizeOf3 w)
 v3:=fun w=>(Vp.A3 3 w).trans (Tryz.zeroValue3 w)
 t4:=Vp.Bl Tryz.underlying4
 a4:=fun w=>(Vp.A4 4 w).trans (Tryz.isAgg4 w)
 z4:=fun w=>(Vp.run_sizeOf 4 w).trans (Tryz.sizeOf4 w)
 v4:=fun w=>(Vp.A3 4 w).trans (Tryz.zeroValue4 w)
 t9:=Vp.Bl Tryz.underlying9
 a9:=fun w=>(Vp.A4 9 w).trans (Tryz.isAgg9 w)
 z9:=fun w=>(Vp.run_sizeOf 9 w).trans (Tryz.sizeOf9 w)
 v9:=fun w=>(Vp.A3 9 w).trans (Tryz.zeroValue9 w)
 t24:=Vp.Bl Tryz.underlying195
 a24:=fun w=>(Vp.A4 195 w).trans (Tryz.isAgg195 w)
 z24:=fun w=>(Vp.run_sizeOf 195 w).trans (Tryz.sizeOf195 w)
 v24:=fun w=>(Vp.A3 195 w).trans (Tryz.zeroValue195 w) }
open Go.RowKit Go.Sort Go.Lib in
theorem strings_CutPrefix (s p:ByteArray)(w:World) :
 Calls Vp.prog 154 #[.string s,.string p] w fun e w'=>e=.returned (.tuple #[.string ⟨(Lib.trimPrefix s.data.toList p.data.toList).toArray⟩,.bool (Lib.hasPrefix s.data.toList p.data.toList)])/\w'=w:=Any.strings_CutPrefix Aea s p w
def Pv:Go.Shelf.Ren:=⟨fun|169=>36|n=>n,fun|70=>65|9=>9|0=>0|72=>67|37=>22|127=>125|3=>3|5=>5|n=>n,fun|n=>n⟩
theorem A65:Go.Proofs.Lays.n169 Vp.prog Pv:={
 mixed:=by kernel_rfl
 f169:=Vp.func36.trans (congrArg some (by kernel_rfl))
 t0:=Vp.Bl Tryz.underlying0
 a0:=fun w=>(Vp.A4 0 w).trans (Tryz.isAgg0 w)
 z0:=fun w=>(Vp.run_sizeOf 0 w).trans (Tryz.sizeOf0 w)
 v0:=fun w=>(Vp.A3 0 w).trans (Tryz.zeroValue0 w)
 t3:=Vp.Bl Tryz.underlying3
 a3:=fun w=>(Vp.A4 3 w).trans (Tryz.isAgg3 w)
 z3:=fun w=>(Vp.run_sizeOf 3 w).trans (Tryz.sizeOf3 w)
 v3:=fun w=>(Vp.A3 3 w).trans (Tryz.zeroValue3 w)
 t9:=Vp.Bl Tryz.underlying9
 a9:=fun w=>(Vp.A4 9 w).trans (Tryz.isAgg9 w)
 z9:=fun w=>(Vp.run_sizeOf 9 w).trans (Tryz.sizeOf9 w)
 v9:=fun w=>(Vp.A3 9 w).trans (Tryz.zeroValue9 w)
 t37:=Vp.Bl Tryz.underlying22
 a37:=fun w=>(Vp.A4 22 w).trans (Tryz.isAgg22 w)
 z37:=fun w=>(Vp.run_sizeOf 22 w).trans (Tryz.sizeOf22 w)
 v37:=fun w=>(Vp.A3 22 w).trans (Tryz.zeroValue22 w)
 t70:=Vp.Bl Tryz.underlying65
 a70:=fun w=>(Vp.A4 65 w).trans (Tryz.isAgg65 w)
 z70:=fun w=>(Vp.run_sizeOf 65 w).trans (Tryz.sizeOf65 w)
 v70:=fun w=>(Vp.A3 65 w).trans (Tryz.zeroValue65 w)
 t72:=Vp.Bl Tryz.underlying67
 a72:=fun w=>(Vp.A4 67 w).trans (Tryz.isAgg67 w)
 z72:=fun w=>(Vp.run_sizeOf 67 w).trans (Tryz.sizeOf67 w)
 v72:=fun w=>(Vp.A3 67 w).trans (Tryz.zeroValue67 w)
 t127:=Vp.Bl Tryz.underlying125
 a127:=fun w=>(Vp.A4 125 w).trans (Tryz.isAgg125 w)
 z127:=fun w=>(Vp.run_sizeOf 125 w).trans (Tryz.sizeOf125 w)
 v127:=fun w=>(Vp.A3 125 w).trans (Tryz.zeroValue125 w) }
theorem H7:Builder.Extra Vp.prog Pv:={
 sizeBuilder:=by kernel_rfl
 liesBuilder:=by kernel_rfl
 t5:=Vp.Bl Tryz.underlying5
 a5:=fun w=>(Vp.A4 5 w).trans (Tryz.isAgg5 w)
 z5:=fun w=>(Vp.run_sizeOf 5 w).trans (Tryz.sizeOf5 w)
 v5:=fun w=>(Vp.A3 5 w).trans (Tryz.zeroValue5 w)
 infoByte:=by kernel_rfl
 cellsByte:=by kernel_rfl
 sizeByte:=by kernel_rfl
 neB5:=by decide }
open Go.RowKit Go.Sort Go.Lib in
theorem Builder_String_any (B b:Nat)(l:List UInt8)(w:World)(h:Lib.IsBuilder 67 5 B b (Lib.byteCells l) w)(hBw:B<=w.heap.size) :
 Calls Vp.prog 36 #[.pointer (some ⟨b,0,none⟩)] w fun e w'=>e=.returned (.string ⟨l.toArray⟩)/\Below B w w':=Any.Builder_String_any A65 H7 B b l w h hBw
open Go.RowKit Go.Sort Go.Lib in
theorem Builder_String_any_k (B b:Nat)(l:List UInt8)(w:World)(h:Lib.IsBuilderF 67 5 B b (Lib.byteCells l) w)(hBw:B<=w.heap.size) :
 Calls Vp.prog 36 #[.pointer (some ⟨b,0,none⟩)] w fun e w'=>e=.returned (.string ⟨l.toArray⟩) /\(Lib.IsBuilderF 67 5 B b (Lib.byteCells l) w'/\Below B w w'/\Lib.OthersKept 5 (some b) w w'):=Any.Builder_String_any_k A65 H7 B b l w h hBw
def Pw:Go.Shelf.Ren:=⟨fun|241=>156|277=>191|n=>n,fun|70=>65|3=>3|0=>0|72=>67|37=>22|5=>5|n=>n,fun|n=>n⟩
theorem Aec:Go.Proofs.Lays.n241 Vp.prog Pw:={
 mixed:=by kernel_rfl
 f241:=Vp.func156.trans (congrArg some (by kernel_rfl))
 f277:=Vp.func191.trans (congrArg some (by kernel_rfl))
 t0:=Vp.Bl Tryz.underlying0
 a0:=fun w=>(Vp.A4 0 w).trans (Tryz.isAgg0 w)
 z0:=fun w=>(Vp.run_sizeOf 0 w).trans (Tryz.sizeOf0 w)
 v0:=fun w=>(Vp.A3 0 w).trans (Tryz.zeroValue0 w)
 t3:=Vp.Bl Tryz.underlying3
 a3:=fun w=>(Vp.A4 3 w).trans (Tryz.isAgg3 w)
 z3:=fun w=>(Vp.run_sizeOf 3 w).trans (Tryz.sizeOf3 w)
 v3:=fun w=>(Vp.A3 3 w).trans (Tryz.zeroValue3 w)
 t37:=Vp.Bl Tryz.underlying22
 a37:=fun w=>(Vp.A4 22 w).trans (Tryz.isAgg22 w)
 z37:=fun w=>(Vp.run_sizeOf 22 w).trans (Tryz.sizeOf22 w)
 v37:=fun w=>(Vp.A3 22 w).trans (Tryz.zeroValue22 w)
 t70:=Vp.Bl Tryz.underlying65
 a70:=fun w=>(Vp.A4 65 w).trans (Tryz.isAgg65 w)
 z70:=fun w=>(Vp.run_sizeOf 65 w).trans (Tryz.sizeOf65 w)
 v70:=fun w=>(Vp.A3 65 w).trans (Tryz.zeroValue65 w)
 t72:=Vp.Bl Tryz.underlying67
 a72:=fun w=>(Vp.A4 67 w).trans (Tryz.isAgg67 w)
 z72:=fun w=>(Vp.run_sizeOf 67 w).trans (Tryz.sizeOf67 w)
 v72:=fun w=>(Vp.A3 67 w).trans (Tryz.zeroValue67 w) }
theorem Mz:Builder.Extra Vp.prog Pw:={
 sizeBuilder:=by kernel_rfl
 liesBuilder:=by kernel_rfl
 t5:=Vp.Bl Tryz.underlying5
 a5:=fun w=>(Vp.A4 5 w).trans (Tryz.isAgg5 w)
 z5:=fun w=>(Vp.run_sizeOf 5 w).trans (Tryz.sizeOf5 w)
 v5:=fun w=>(Vp.A3 5 w).trans (Tryz.zeroValue5 w)
 infoByte:=by kernel_rfl
 cellsByte:=by kernel_rfl
 sizeByte:=by kernel_rfl
 neB5:=by decide }
open Go.RowKit Go.Sort Go.Lib in
theorem Builder_grow_fresh (B b n:Nat)(w:World)(hB:B<=b)(hbk:w.heap[b]?=some (.cells #[.pointer (some ⟨b,0,none⟩),.slice none 0 0] 67 (0,0)))(hBw:B<=w.heap.size)(hn:n<=281474976710656) :
 Calls Vp.prog 156 #[.pointer (some ⟨b,0,none⟩),.int .i64 n] w fun e w'=>e=.returned (.tuple #[]) /\(Lib.BuilderAt 67 5 B b (.pointer (some ⟨b,0,none⟩)) [] w'/\Below B w w'):=Any.Builder_grow_fresh Aec Mz B b n w hB hbk hBw hn
def A1g:Go.Shelf.Ren:=⟨fun|283=>187|n=>n,fun|3=>3|9=>9|4=>4|n=>n,fun|n=>n⟩
theorem Aed:Go.Proofs.Lays.n283 Vp.prog A1g:={
 mixed:=by kernel_rfl
 f283:=Vp.func187.trans (congrArg some (by kernel_rfl))
 t3:=Vp.Bl Tryz.underlying3
 a3:=fun w=>(Vp.A4 3 w).trans (Tryz.isAgg3 w)
 z3:=fun w=>(Vp.run_sizeOf 3 w).trans (Tryz.sizeOf3 w)
 v3:=fun w=>(Vp.A3 3 w).trans (Tryz.zeroValue3 w)
 t4:=Vp.Bl Tryz.underlying4
 a4:=fun w=>(Vp.A4 4 w).trans (Tryz.isAgg4 w)
 z4:=fun w=>(Vp.run_sizeOf 4 w).trans (Tryz.sizeOf4 w)
 v4:=fun w=>(Vp.A3 4 w).trans (Tryz.zeroValue4 w)
 t9:=Vp.Bl Tryz.underlying9
 a9:=fun w=>(Vp.A4 9 w).trans (Tryz.isAgg9 w)
 z9:=fun w=>(Vp.run_sizeOf 9 w).trans (Tryz.sizeOf9 w)
 v9:=fun w=>(Vp.A3 9 w).trans (Tryz.zeroValue9 w) }
open Go.RowKit Go.Sort Go.Lib in
theorem internal_strconv_small (i:Nat)(h:i<100)(w:World) :
 Calls Vp.prog 187 #[.int .i64 i] w fun e w'=>e=.returned (.string ⟨(Lib.decDigits i).toArray⟩)/\w'=w:=Any.internal_strconv_small Aed i h w
def Ye:Go.Shelf.Ren:=⟨fun|284=>188|129=>215|317=>214|318=>216|n=>n,fun|53=>148|3=>3|212=>258|0=>0|4=>4|46=>150|5=>5|9=>9|n=>n,fun|17=>3|n=>n⟩
theorem Abb:Go.Proofs.LaysM.n284 Vp.prog Ye:={
 mixed:=by kernel_rfl
 f129:=Vp.func215.trans (congrArg some (by kernel_rfl))
 f284:=Vp.func188.trans (congrArg some (by kernel_rfl))
 f317:=Vp.func214.trans (congrArg some (by kernel_rfl))
 f318:=Vp.func216.trans (congrArg some (by kernel_rfl))
 t0:=Vp.Bl Tryz.underlying0
 a0:=fun w=>(Vp.A4 0 w).trans (Tryz.isAgg0 w)
 z0:=fun w=>(Vp.run_sizeOf 0 w).trans (Tryz.sizeOf0 w)
 v0:=fun w=>(Vp.A3 0 w).trans (Tryz.zeroValue0 w)
 t3:=Vp.Bl Tryz.underlying3
 a3:=fun w=>(Vp.A4 3 w).trans (Tryz.isAgg3 w)
 z3:=fun w=>(Vp.run_sizeOf 3 w).trans (Tryz.sizeOf3 w)
 v3:=fun w=>(Vp.A3 3 w).trans (Tryz.zeroValue3 w)
 t4:=Vp.Bl Tryz.underlying4
 a4:=fun w=>(Vp.A4 4 w).trans (Tryz.isAgg4 w)
 z4:=fun w=>(Vp.run_sizeOf 4 w).trans (Tryz.sizeOf4 w)
 v4:=fun w=>(Vp.A3 4 w).trans (Tryz.zeroValue4 w)
 t5:=Vp.Bl Tryz.underlying5
 a5:=fun w=>(Vp.A4 5 w).trans (Tryz.isAgg5 w)
 z5:=fun w=>(Vp.run_sizeOf 5 w).trans (Tryz.sizeOf5 w)
 v5:=fun w=>(Vp.A3 5 w).trans (Tryz.zeroValue5 w)
 t9:=Vp.Bl Tryz.underlying9
 a9:=fun w=>(Vp.A4 9 w).trans (Tryz.isAgg9 w)
 z9:=fun w=>(Vp.run_sizeOf 9 w).trans (Tryz.sizeOf9 w)
 v9:=fun w=>(Vp.A3 9 w).trans (Tryz.zeroValue9 w)
 t46:=Vp.Bl Tryz.underlying150
 a46:=fun w=>(Vp.A4 150 w).trans (Tryz.isAgg150 w)
 z46:=fun w=>(Vp.run_sizeOf 150 w).trans (Tryz.sizeOf150 w)
 v46:=fun w=>(Vp.A3 150 w).trans (Tryz.zeroValue150 w)
 t53:=Vp.Bl Tryz.underlying148
 a53:=fun w=>(Vp.A4 148 w).trans (Tryz.isAgg148 w)
 z53:=fun w=>(Vp.run_sizeOf 148 w).trans (Tryz.sizeOf148 w)
 v53:=fun w=>(Vp.A3 148 w).trans (Tryz.zeroValue148 w)
 t212:=Vp.Bl Tryz.underlying258
 a212:=fun w=>(Vp.A4 258 w).trans (Tryz.isAgg258 w)
 z212:=fun w=>(Vp.run_sizeOf 258 w).trans (Tryz.sizeOf258 w)
 v212:=fun w=>(Vp.A3 258 w).trans (Tryz.zeroValue258 w)
 g17:=by kernel_rfl
 i0:=by kernel_rfl
 i3:=by kernel_rfl
 i4:=by kernel_rfl
 i5:=by kernel_rfl
 i9:=by kernel_rfl
 i46:=by kernel_rfl
 i53:=by kernel_rfl
 i212:=by kernel_rfl
 m17:=by kernel_rfl }
open Go.RowKit Go.Sort Go.Lib in
theorem internal_strconv_numDigits (u:Nat)(h1:1<=u)(h2:u<18446744073709551616)(w:World)(htab:Lib.TabIs Vp.prog w "internal/strconv.uint64pow10" .u64 Lib.pow10Tab) :
 Calls Vp.prog 188 #[.int .u64 u] w fun e w'=>e=.returned (.int .i64 (Lib.nDigits u))/\w'=w:=Any.internal_strconv_numDigits Abb u h1 h2 w htab
def A1h:Go.Shelf.Ren:=⟨fun|285=>189|n=>n,fun|37=>22|53=>148|3=>3|4=>4|51=>50|9=>9|5=>5|0=>0|n=>n,fun|n=>n⟩
theorem Aee:Go.Proofs.Lays.n285 Vp.prog A1h:={
 mixed:=by kernel_rfl
 f285:=Vp.func189.trans (congrArg some (by kernel_rfl))
 t0:=Vp.Bl Tryz.underlying0
 a0:=fun w=>(Vp.A4 0 w).trans (Tryz.isAgg0 w)
 z0:=fun w=>(Vp.run_sizeOf 0 w).trans (Tryz.sizeOf0 w)
 v0:=fun w=>(Vp.A3 0 w).trans (Tryz.zeroValue0 w)
 t3:=Vp.Bl Tryz.underlying3
 a3:=fun w=>(Vp.A4 3 w).trans (Tryz.isAgg3 w)
 z3:=fun w=>(Vp.run_sizeOf 3 w).trans (Tryz.sizeOf3 w)
 v3:=fun w=>(Vp.A3 3 w).trans (Tryz.zeroValue3 w)
 t4:=Vp.Bl Tryz.underlying4
 a4:=fun w=>(Vp.A4 4 w).trans (Tryz.isAgg4 w)
 z4:=fun w=>(Vp.run_sizeOf 4 w).trans (Tryz.sizeOf4 w)
 v4:=fun w=>(Vp.A3 4 w).trans (Tryz.zeroValue4 w)
 t5:=Vp.Bl Tryz.underlying5
 a5:=fun w=>(Vp.A4 5 w).trans (Tryz.isAgg5 w)
 z5:=fun w=>(Vp.run_sizeOf 5 w).trans (Tryz.sizeOf5 w)
 v5:=fun w=>(Vp.A3 5 w).trans (Tryz.zeroValue5 w)
 t9:=Vp.Bl Tryz.underlying9
 a9:=fun w=>(Vp.A4 9 w).trans (Tryz.isAgg9 w)
 z9:=fun w=>(Vp.run_sizeOf 9 w).trans (Tryz.sizeOf9 w)
 v9:=fun w=>(Vp.A3 9 w).trans (Tryz.zeroValue9 w)
 t37:=Vp.Bl Tryz.underlying22
 a37:=fun w=>(Vp.A4 22 w).trans (Tryz.isAgg22 w)
 z37:=fun w=>(Vp.run_sizeOf 22 w).trans (Tryz.sizeOf22 w)
 v37:=fun w=>(Vp.A3 22 w).trans (Tryz.zeroValue22 w)
 t51:=Vp.Bl Tryz.underlying50
 a51:=fun w=>(Vp.A4 50 w).trans (Tryz.isAgg50 w)
 z51:=fun w=>(Vp.run_sizeOf 50 w).trans (Tryz.sizeOf50 w)
 v51:=fun w=>(Vp.A3 50 w).trans (Tryz.zeroValue50 w)
 t53:=Vp.Bl Tryz.underlying148
 a53:=fun w=>(Vp.A4 148 w).trans (Tryz.isAgg148 w)
 z53:=fun w=>(Vp.run_sizeOf 148 w).trans (Tryz.sizeOf148 w)
 v53:=fun w=>(Vp.A3 148 w).trans (Tryz.zeroValue148 w) }
open Go.RowKit Go.Sort Go.Lib in
theorem internal_strconv_formatBase10 (blk off cap:Nat)(u:Nat)(d:Array UInt8)(w:World)(hH:Holds (fun(b:UInt8)=>Value.int .u8 (b.toNat:Int)) w blk off d)(hu:u<10^d.size)(hu64:u<18446744073709551616)(hsz:d.size<4611686018427387904) :
 Calls Vp.prog 189 #[.slice (some ⟨blk,off,none⟩) d.size cap,.int .u64 u] w fun e w' =>
  e=.returned (.tuple #[])/\∃(n v':Nat) (dk:Array UInt8),w'=(putRow (fun(b:UInt8)=>Value.int .u8 (b.toNat:Int)) w blk off dk).drewN n/\FmtInv d.size u 0 v' dk:=Any.internal_strconv_formatBase10 Aee blk off cap u d w hH hu hu64 hsz
def Pu:Go.Shelf.Ren:=⟨fun|156=>74|165=>123|166=>31|169=>36|240=>69|241=>156|276=>105|277=>191|n=>n,fun|31=>123|9=>9|3=>3|4=>4|0=>0|20=>20|72=>67|76=>72|70=>65|37=>22|75=>71|127=>125|164=>158|5=>5|80=>78|n=>n,fun|n=>n⟩
theorem My:Builder.Extra Vp.prog Pu:={
 sizeBuilder:=by kernel_rfl
 liesBuilder:=by kernel_rfl
 t5:=Vp.Bl Tryz.underlying5
 a5:=fun w=>(Vp.A4 5 w).trans (Tryz.isAgg5 w)
 z5:=fun w=>(Vp.run_sizeOf 5 w).trans (Tryz.sizeOf5 w)
 v5:=fun w=>(Vp.A3 5 w).trans (Tryz.zeroValue5 w)
 infoByte:=by kernel_rfl
 cellsByte:=by kernel_rfl
 sizeByte:=by kernel_rfl
 neB5:=by decide }
theorem Aeb:Go.Proofs.Lays.n166 Vp.prog Pu:={
 mixed:=by kernel_rfl
 f166:=Vp.func31.trans (congrArg some (by kernel_rfl))
 f240:=Vp.func69.trans (congrArg some (by kernel_rfl))
 f276:=Vp.func105.trans (congrArg some (by kernel_rfl))
 t0:=Vp.Bl Tryz.underlying0
 a0:=fun w=>(Vp.A4 0 w).trans (Tryz.isAgg0 w)
 z0:=fun w=>(Vp.run_sizeOf 0 w).trans (Tryz.sizeOf0 w)
 v0:=fun w=>(Vp.A3 0 w).trans (Tryz.zeroValue0 w)
 t3:=Vp.Bl Tryz.underlying3
 a3:=fun w=>(Vp.A4 3 w).trans (Tryz.isAgg3 w)
 z3:=fun w=>(Vp.run_sizeOf 3 w).trans (Tryz.sizeOf3 w)
 v3:=fun w=>(Vp.A3 3 w).trans (Tryz.zeroValue3 w)
 t4:=Vp.Bl Tryz.underlying4
 a4:=fun w=>(Vp.A4 4 w).trans (Tryz.isAgg4 w)
 z4:=fun w=>(Vp.run_sizeOf 4 w).trans (Tryz.sizeOf4 w)
 v4:=fun w=>(Vp.A3 4 w).trans (Tryz.zeroValue4 w)
 t9:=Vp.Bl Tryz.underlying9
 a9:=fun w=>(Vp.A4 9 w).trans (Tryz.isAgg9 w)
 z9:=fun w=>(Vp.run_sizeOf 9 w).trans (Tryz.sizeOf9 w)
 v9:=fun w=>(Vp.A3 9 w).trans (Tryz.zeroValue9 w)
 t20:=Vp.Bl Tryz.underlying20
 a20:=fun w=>(Vp.A4 20 w).trans (Tryz.isAgg20 w)
 z20:=fun w=>(Vp.run_sizeOf 20 w).trans (Tryz.sizeOf20 w)
 v20:=fun w=>(Vp.A3 20 w).trans (Tryz.zeroValue20 w)
 t37:=Vp.Bl Tryz.underlying22
 a37:=fun w=>(Vp.A4 22 w).trans (Tryz.isAgg22 w)
 z37:=fun w=>(Vp.run_sizeOf 22 w).trans (Tryz.sizeOf22 w)
 v37:=fun w=>(Vp.A3 22 w).trans (Tryz.zeroValue22 w)
 t70:=Vp.Bl Tryz.underlying65
 a70:=fun w=>(Vp.A4 65 w).trans (Tryz.isAgg65 w)
 z70:=fun w=>(Vp.run_sizeOf 65 w).trans (Tryz.sizeOf65 w)
 v70:=fun w=>(Vp.A3 65 w).trans (Tryz.zeroValue65 w)
 t72:=Vp.Bl Tryz.underlying67
 a72:=fun w=>(Vp.A4 67 w).trans (Tryz.isAgg67 w)
 z72:=fun w=>(Vp.run_sizeOf 67 w).trans (Tryz.sizeOf67 w)
 v72:=fun w=>(Vp.A3 67 w).trans (Tryz.zeroValue67 w)
 t75:=Vp.Bl Tryz.underlying71
 a75:=fun w=>(Vp.A4 71 w).trans (Tryz.isAgg71 w)
 z75:=fun w=>(Vp.run_sizeOf 71 w).trans (Tryz.sizeOf71 w)
 v75:=fun w=>(Vp.A3 71 w).trans (Tryz.zeroValue71 w)
 t164:=Vp.Bl Tryz.underlying158
 a164:=fun w=>(Vp.A4 158 w).trans (Tryz.isAgg158 w)
 z164:=fun w=>(Vp.run_sizeOf 158 w).trans (Tryz.sizeOf158 w)
 v164:=fun w=>(Vp.A3 158 w).trans (Tryz.zeroValue158 w) }
end Vsh
end Go.Proofs.YtjaehldnlamgkaaGreatDoor
