import Derived.Test.YtjaehldnlamgkaaGreatDoorXe13
import Derived.Laws.OwnMore
import Derived.OwnWalk
import Derived.Deep.AppendLies
import Derived.Deep.DrawnRows
import Derived.Deep.Cut
import Derived.Outline
import Derived.Laws.BitsAllLaws
import Derived.Deep.RegionHeld3
import Derived.Deep.RegionLaw
import Derived.Deep.DeepAppendRoom
import Derived.Test.YtjaehldnlamgkaaGreatDoorXe0
import Derived.Test.YtjaehldnlamgkaaGreatDoorXeK
set_option linter.all false
set_option maxHeartbeats 16000000
set_option maxRecDepth 100000
namespace Go.Proofs.YtjaehldnlamgkaaGreatDoor
section
open Go.RowKit
def Db (x:Nat):Value:=.float .f32 x
def By (x:Int):Value:=.int .i64 x
def C8 (cx cy:Nat)(deep size:Int)(sm mk:Value):Array Value:=#[.complex .f32 cx cy,.int .i64 deep,.int .i64 size,sm,mk]
theorem A17:(Vp.prog.info? 87).map (fun i=>(i.zero,i.size,i.bytes))=some (some (.float .f32 0),1,4):=by kernel_rfl
theorem Wf:(Vp.prog.info? 3).map (fun i=>(i.zero,i.size,i.bytes))=some (some (.int .i64 0),1,8):=by kernel_rfl
theorem Bg {w:World}{base:Nat}{e:TypeId}{size:Nat}{v:Value}{n:Nat}{xs:List Value}(h:w.ownsRow base e size v n xs){b:Nat}{C:Array Value}{T:TypeId}(hb:w.heap[b]?=some (.cells C T (0,0)))(hne:e≠T):v.ownBlock≠some b:=by
 rcases h.2 with⟨rfl,_⟩ |⟨g,cap,cur,rfl,_,hg,_⟩
 ·simp[Value.ownBlock]
 ·intro he;simp[Value.ownBlock]at he;subst he;rw[hg]at hb;injection hb with hb
  injection hb with _ hb _
  exact hne hb
theorem Df {w:World}{base base':Nat}{e e':TypeId}{size size':Nat}{v v':Value}{n n':Nat}{xs xs':List Value}(h:w.ownsRow base e size v n xs)(h':w.ownsRow base' e' size' v' n' xs')(hne:e≠e'):v.ownBlock=none\/v.ownBlock≠v'.ownBlock:=by
 rcases h'.2 with⟨rfl,_⟩ |⟨g,cap,cur,rfl,_,hg,_⟩
 ·cases hv:v.ownBlock
  ·exact .inl rfl
  ·exact .inr (by simp[Value.ownBlock])
 ·exact .inr (Bg h hg hne)
theorem C4 {w w':World}{base:Nat}{e:TypeId}{size:Nat}{v:Value}{n:Nat}{xs:List Value}(h:w.ownsRow base e size v n xs)(k:Below w.heap.size w w'):w'.ownsRow base e size v n xs :=
 h.kept ⟨k.os,k.tape,k.output,k.size,fun i hi _=>k.block i hi⟩ (row:=none) (by cases hv:v.ownBlock<;>simp)
theorem A7.grown {w0 W W':World}{b:Nat}{C:Array Value}{T:TypeId}(h:A7 w0 b C T W){row:Option Nat}(hg:W.grownBy W' row)(hne:row≠some b)(hrow:∀k,row=some k->w0.heap.size<=k):A7 w0 b C T W' :=
 ⟨(hg.block b h.lt (fun e=>hne e.symm)).trans h.blk,h.old.grown hg h.old.size hrow⟩
structure TM (w:World)(rb ob:Nat)(cx cy:Nat)(deep size:Int)(n m:Nat)(xs:List Nat)(ys:List Int)(smv mkv:Value)(W:World):Prop where
 O:A7 w ob (C8 cx cy deep size smv mkv) 43 W
 R:A7 w rb (C8 0 0 0 0 (.slice none 0 0) (.slice none 0 0)) 43 W
 S:W.ownsRow w.heap.size 87 1 smv n (xs.map Db)
 M:W.ownsRow w.heap.size 3 1 mkv m (ys.map By)
 hx:∀x,x∈xs->x<4294967296
 hy:∀y,y∈ys->-1<=y/\y<=1
 ne:rb≠ob
 hr:w.heap.size<=rb
 ho:w.heap.size<=ob
theorem TM.step {w:World}{rb ob cx cy n m:Nat}{deep size:Int}{xs:List Nat}{ys:List Int}{smv mkv:Value}{W W':World}(h:TM w rb ob cx cy deep size n m xs ys smv mkv W)(k:Below W.heap.size W W'):TM w rb ob cx cy deep size n m xs ys smv mkv W' :=
 ⟨h.O.step k,h.R.step k,C4 h.S k,C4 h.M k,h.hx,h.hy,h.ne,h.hr,h.ho⟩
theorem TM.alloc {w:World}{rb ob cx cy n m:Nat}{deep size:Int}{xs:List Nat}{ys:List Int}{smv mkv:Value}{W:World}(h:TM w rb ob cx cy deep size n m xs ys smv mkv W)(o:Obj):TM w rb ob cx cy deep size n m xs ys smv mkv (W.alloc o) :=
 h.step ((Amc _ _).alloc (Am0 _) o)
theorem TM.drw {w:World}{rb ob cx cy n m:Nat}{deep size:Int}{xs:List Nat}{ys:List Int}{smv mkv:Value}{W W':World}(h:TM w rb ob cx cy deep size n m xs ys smv mkv W)(k:Bp W W'):TM w rb ob cx cy deep size n m xs ys smv mkv W':=h.step (k.below _)
theorem TM.old {w:World}{rb ob cx cy n m:Nat}{deep size:Int}{xs:List Nat}{ys:List Int}{smv mkv:Value}{W:World}(h:TM w rb ob cx cy deep size n m xs ys smv mkv W):Below w.heap.size w W:=h.O.old
theorem Aa {w:World}{base:Nat}{e:TypeId}{size:Nat}{v:Value}{n:Nat}{xs:List Value}(h:w.ownsRow base e size v n xs){b j:Nat}{C:Array Value}{T:TypeId}(hb:w.heap[b]?=some (.cells C T (0,0)))(hne:e≠T)(u:Value):(w.setCell ⟨b,j,none⟩ u).ownsRow base e size v n xs :=
 ownsRow_setCell_other h (Bg h hb hne) u
theorem A7.Og {w0 W:World}{b:Nat}{v0 v1 v2 v3 v4:Value}{T:TypeId}(h:A7 w0 b #[v0,v1,v2,v3,v4] T W) :
 W.cell? ⟨b,0,none⟩=some v0/\W.cell? ⟨b,1,none⟩=some v1/\W.cell? ⟨b,2,none⟩=some v2/\W.cell? ⟨b,3,none⟩=some v3/\W.cell? ⟨b,4,none⟩=some v4 :=
 ⟨h.cell 0 _ rfl,h.cell 1 _ rfl,h.cell 2 _ rfl,h.cell 3 _ rfl,h.cell 4 _ rfl⟩
theorem A7.Aav {w0 W:World}{b:Nat}{C:Array Value}{T:TypeId}(h:A7 w0 b C T W) :
 W.frozen? ⟨b,0,none⟩=false/\W.frozen? ⟨b,1,none⟩=false/\W.frozen? ⟨b,2,none⟩=false/\W.frozen? ⟨b,3,none⟩=false/\W.frozen? ⟨b,4,none⟩=false :=
 ⟨h.frozen 0,h.frozen 1,h.frozen 2,h.frozen 3,h.frozen 4⟩
theorem TM.oc {w:World}{rb ob cx cy n m:Nat}{deep size:Int}{xs:List Nat}{ys:List Int}{smv mkv:Value}{W:World}(h:TM w rb ob cx cy deep size n m xs ys smv mkv W) :
 W.cell? ⟨ob,0,none⟩=some (.complex .f32 cx cy)/\W.cell? ⟨ob,1,none⟩=some (.int .i64 deep)/\W.cell? ⟨ob,2,none⟩=some (.int .i64 size)/\W.cell? ⟨ob,3,none⟩=some smv/\W.cell? ⟨ob,4,none⟩=some mkv:=h.O.Og
theorem TM.rc {w:World}{rb ob cx cy n m:Nat}{deep size:Int}{xs:List Nat}{ys:List Int}{smv mkv:Value}{W:World}(h:TM w rb ob cx cy deep size n m xs ys smv mkv W) :
 W.cell? ⟨rb,0,none⟩=some (.complex .f32 0 0)/\W.cell? ⟨rb,1,none⟩=some (.int .i64 0)/\W.cell? ⟨rb,2,none⟩=some (.int .i64 0)/\W.cell? ⟨rb,3,none⟩=some (.slice none 0 0)/\W.cell? ⟨rb,4,none⟩=some (.slice none 0 0):=h.R.Og
theorem TM.It {w:World}{rb ob cx cy n m:Nat}{deep size:Int}{xs:List Nat}{ys:List Int}{smv mkv v':Value}{W W':World}(h:TM w rb ob cx cy deep size n m xs ys smv mkv W){z:Nat}(hz:z<4294967296)(hown:W'.ownsRow w.heap.size 87 1 v' (n+1) (xs.map Db++[Db z]))(hg:W.grownBy W' smv.ownBlock) :
 TM w rb ob cx cy deep size (n+1) m (xs++[z]) ys v' mkv (W'.setCell ⟨ob,3,none⟩ v')/\W'.cell? ⟨ob,3,none⟩=some smv/\W'.frozen? ⟨ob,3,none⟩=false:=by
 have hrow:∀k,smv.ownBlock=some k->w.heap.size<=k:=fun k hk=>(h.S.lt k hk).1
 have O:=h.O.grown hg (Bg h.S h.O.blk (by decide)) hrow
 have R:=h.R.grown hg (Bg h.S h.R.blk (by decide)) hrow
 have M:=h.M.kept hg (Df h.M h.S (by decide))
 refine⟨⟨?_,R.other (p:=⟨ob,3,none⟩) h.ho h.ne _,?_,Aa M O.blk (by decide) _,?_,h.hy,h.ne,h.hr,h.ho⟩,O.cell 3 _ rfl,O.frozen 3⟩
 ·have:=O.set h.ho 3 v'
  exact this
 ·rw[Aok]
  exact Aa hown O.blk (by decide) _
 ·intro x hx
  rcases Aq9.1 hx with hx|hx
  ·exact h.hx x hx
  ·rw[Ap6]at hx;rw[hx];exact hz
theorem TM.mark {w:World}{rb ob cx cy n m:Nat}{deep size:Int}{xs:List Nat}{ys:List Int}{smv mkv v':Value}{W W':World}(h:TM w rb ob cx cy deep size n m xs ys smv mkv W){z:Int}(hz:-1<=z/\z<=1)(hown:W'.ownsRow w.heap.size 3 1 v' (m+1) (ys.map By++[By z]))(hg:W.grownBy W' mkv.ownBlock) :
 TM w rb ob cx cy deep size n (m+1) xs (ys++[z]) smv v' (W'.setCell ⟨ob,4,none⟩ v')/\W'.cell? ⟨ob,4,none⟩=some mkv/\W'.frozen? ⟨ob,4,none⟩=false:=by
 have hrow:∀k,mkv.ownBlock=some k->w.heap.size<=k:=fun k hk=>(h.M.lt k hk).1
 have O:=h.O.grown hg (Bg h.M h.O.blk (by decide)) hrow
 have R:=h.R.grown hg (Bg h.M h.R.blk (by decide)) hrow
 have S:=h.S.kept hg (Df h.S h.M (by decide))
 refine⟨⟨?_,R.other (p:=⟨ob,4,none⟩) h.ho h.ne _,Aa S O.blk (by decide) _,?_,h.hx,?_,h.ne,h.hr,h.ho⟩,O.cell 4 _ rfl,O.frozen 4⟩
 ·have:=O.set h.ho 4 v'
  exact this
 ·rw[Aok]
  exact Aa hown O.blk (by decide) _
 ·intro y hy
  rcases Aq9.1 hy with hy|hy
  ·exact h.hy y hy
  ·rw[Ap6]at hy;rw[hy];exact hz
structure Made (B n:Nat)(xs:List Nat)(ys:List Int)(smv mkv:Value)(W:World):Prop where
 S:W.ownsRow B 87 1 smv n (xs.map Db)
 M:W.ownsRow B 3 1 mkv n (ys.map By)
 lx:xs.length=n
 ly:ys.length=n
 hx:∀x,x∈xs->x<4294967296
 hy:∀y,y∈ys->-1<=y/\y<=1
theorem Made.set {B n:Nat}{xs:List Nat}{ys:List Int}{smv mkv:Value}{W:World}(h:Made B n xs ys smv mkv W){b:Nat}{C:Array Value}(hb:W.heap[b]?=some (.cells C 43 (0,0)))(j:Nat)(u:Value):Made B n xs ys smv mkv (W.setCell ⟨b,j,none⟩ u) :=
 ⟨Aa h.S hb (by decide) u,Aa h.M hb (by decide) u,h.lx,h.ly,h.hx,h.hy⟩
theorem TM.made {w:World}{rb ob cx cy n:Nat}{deep size:Int}{s:Nat}{xs:List Nat}{ys:List Int}{smv mkv:Value}{W:World}(h:TM w rb ob cx cy deep size n n xs ys smv mkv W)(hn:n=s*s)(u0 u1 u2 u3 u4:Value) :
 Made w.heap.size ((s:Int).toNat *(s:Int).toNat) xs ys smv mkv (((((W.setCell ⟨rb,0,none⟩ u0).setCell ⟨rb,1,none⟩ u1).setCell ⟨rb,2,none⟩ u2).setCell ⟨rb,3,none⟩ u3).setCell ⟨rb,4,none⟩ u4):=by
 have lx:xs.length=n:=by have:=h.S.1;simpa using this
 have ly:ys.length=n:=by have:=h.M.1;simpa using this
 have m0:Made w.heap.size n xs ys smv mkv W:=⟨h.S,h.M,lx,ly,h.hx,h.hy⟩;have b0:=h.R;have b1:=b0.set h.hr 0 u0;have b2:=b1.set h.hr 1 u1;have b3:=b2.set h.hr 2 u2;have b4:=b3.set h.hr 3 u3;rw[Anc,<-hn]
 exact((((m0.set b0.blk 0 u0).set b1.blk 1 u1).set b2.blk 2 u2).set b3.blk 3 u3).set b4.blk 4 u4
theorem Made.step {B n:Nat}{xs:List Nat}{ys:List Int}{smv mkv:Value}{W W':World}(h:Made B n xs ys smv mkv W)(k:Below W.heap.size W W'):Made B n xs ys smv mkv W' :=
 ⟨C4 h.S k,C4 h.M k,h.lx,h.ly,h.hx,h.hy⟩
theorem Made.mono {B B' n:Nat}{xs:List Nat}{ys:List Int}{smv mkv:Value}{W:World}(h:Made B n xs ys smv mkv W)(hB:B'<=B):Made B' n xs ys smv mkv W:=by
 obtain⟨⟨s1,s2⟩,⟨m1,m2⟩,r1,r2,r3,r4⟩:=h
 refine⟨⟨s1,?_⟩,⟨m1,?_⟩,r1,r2,r3,r4⟩
 ·rcases s2 with h |⟨g,cap,cur,h1,h2,r⟩
  ·exact .inl h
  ·exact .inr ⟨g,cap,cur,h1,Am1 hB h2,r⟩
 ·rcases m2 with h |⟨g,cap,cur,h1,h2,r⟩
  ·exact .inl h
  ·exact .inr ⟨g,cap,cur,h1,Am1 hB h2,r⟩
theorem Ahz {w W:World}(h:Below w.heap.size w W){b:Nat}(hb:w.heap.size<=b)(u0 u1 u2 u3 u4:Value) :
 Below w.heap.size w (((((W.setCell ⟨b,0,none⟩ u0).setCell ⟨b,1,none⟩ u1).setCell ⟨b,2,none⟩ u2).setCell ⟨b,3,none⟩ u3).setCell ⟨b,4,none⟩ u4) :=
 ((((h.setCell (p:=⟨b,0,none⟩) hb _).setCell (p:=⟨b,1,none⟩) hb _).setCell (p:=⟨b,2,none⟩) hb _).setCell (p:=⟨b,3,none⟩) hb _).setCell (p:=⟨b,4,none⟩) hb _
end
section
open Go.RowKit
attribute [local go_sem ↓] Go.wp_at_zero Go.wp_at_succ
theorem Sv (cx cy d:Nat)(i j:Int)(hd:d<=11){p q x y:Nat}(h1:floatBits .mul .f32 (floatOfInt .f32 j) (Flo.Ea d)=some p)(h2:floatBits .mul .f32 (floatOfInt .f32 i) (Flo.Ea d)=some q)
 (h3:floatBits .add .f32 cx p=some x) (h4:floatBits .add .f32 cy q=some y) (w:World) :
 Calls Vp.prog 50 #[.complex .f32 cx cy,.int .i64 d,.int .i64 i,.int .i64 j] w fun e w'=>e=.returned (.complex .f32 x y)/\w=w':=by
 have g1:=fun w=>Amz (P:=Vp.prog) w .mul 87 .f32 _ _ _ h1
 have g2:=fun w=>Amz (P:=Vp.prog) w .mul 87 .f32 _ _ _ h2
 have g3:=fun w=>run_complex_sum (P:=Vp.prog) w .add (.inl rfl) 35 .f32 cx cy p q x y (by unfold cSumBits;rw[h3,h4];rfl)
 have HS:=Aly (fun w=>A82 d hd w)
 clear h1 h2 h3 h4;generalize Flo.Ea d=r at *
 go_enter Vp.func50,Tryz.ntmps50
 go_wp2_with (go_at_call 96;refine(HS.out _).mono ?_;rintro e w' ⟨rfl,rfl⟩)
 go_ret
 exact⟨rfl,rfl⟩
theorem Th (cx cy d:Nat)(i j:Int)(hd:d<=11){p q x y:Nat}(h1:floatBits .mul .f32 (floatOfInt .f32 j) (Flo.Ea d)=some p)(h2:floatBits .mul .f32 (floatOfInt .f32 i) (Flo.Ea d)=some q)
 (h3:floatBits .add .f32 cx p=some x) (h4:floatBits .add .f32 cy q=some y) (w:World) :
 Calls Vp.prog 44 #[.complex .f32 cx cy,.int .i64 d,.int .i64 i,.int .i64 j] w fun e w'=>e=.returned (.complex .f32 x y)/\w=w':=by
 have g1:=fun w=>Amz (P:=Vp.prog) w .mul 87 .f32 _ _ _ h1
 have g2:=fun w=>Amz (P:=Vp.prog) w .mul 87 .f32 _ _ _ h2
 have g3:=fun w=>run_complex_sum (P:=Vp.prog) w .add (.inl rfl) 35 .f32 cx cy p q x y (by unfold cSumBits;rw[h3,h4];rfl)
 have HS:=Aly (fun w=>A8q d hd w)
 clear h1 h2 h3 h4;generalize Flo.Ea d=r at *
 go_enter Vp.func44,Tryz.ntmps44
 go_wp2_with (go_at_call 84;refine(HS.out _).mono ?_;rintro e w' ⟨rfl,rfl⟩)
 go_ret
 exact⟨rfl,rfl⟩
theorem Ha (x d:Nat)(n N:Int)(hd:d<=11)(hx:Flo.Pt x d n)(hn:n.natAbs<=65536)(hN:N=n *(2^(24-d):Nat))(h1:-134217728<=N)(h2:N<=134217728)(w:World) :
 Calls Vp.prog 131 #[.float .f32 x] w fun e w'=>e=.returned (.tuple #[.int .i64 N,.int .i64 N,.bool true])/\w=w':=by
 obtain⟨y1,y,e1,e2,hv,e3⟩:=Flo.Nz hd hx hn;rw[<-hN]at hv e3;obtain⟨b1,b2,b3,b4⟩:=Flo.Qf (by omega) hv
 rw[An0 h1]at b1;rw[An0 h2]at b2;have g1:=fun w=>Anz (P:=Vp.prog) w 87 57 .f32 .f64 _ _ (by kernel_rfl) (Vp.Bl Tryz.underlying57) e1
 have g2:=fun w=>Amz (P:=Vp.prog) w .mul 57 .f64 _ _ _ e2
 have g3:=fun w=>run_convert_float_int (P:=Vp.prog) w 57 3 .f64 .i64 _ _ (by kernel_rfl) (Vp.Bl Tryz.underlying3) e3
 clear e1 e2 e3 hv hx hn hN h1 h2 hd
 go_enter Vp.func131,Tryz.ntmps131
 go_wp2
 go_ret3
 exact⟨rfl,rfl⟩
theorem A47 (a b c d:Int)(hv:Ap a b c d=true)(w:World):Calls Vp.prog 132 #[.agg #[.int .i64 a,.int .i64 b,.int .i64 c,.int .i64 d]] w fun e w'=>e=.returned (.tuple #[.agg #[.int .i64 a,.int .i64 b,.int .i64 c,.int .i64 d],.bool true])/\Below w.heap.size w w':=by
 have X0:A7 w w.heap.size #[.int .i64 a,.int .i64 b,.int .i64 c,.int .i64 d] 93 ((w.alloc (.cells #[.int .i64 a,.int .i64 b,.int .i64 c,.int .i64 d] 93)).alloc (.cells #[.int .i64 0,.int .i64 0,.int .i64 0,.int .i64 0] 93)):=(A7.new w _ _).alloc _
 have X1:A7 w (w.heap.size+1) #[.int .i64 0,.int .i64 0,.int .i64 0,.int .i64 0] 93 ((w.alloc (.cells #[.int .i64 a,.int .i64 b,.int .i64 c,.int .i64 d] 93)).alloc (.cells #[.int .i64 0,.int .i64 0,.int .i64 0,.int .i64 0] 93)):=by
  have:=(A7.new (w.alloc (.cells #[.int .i64 a,.int .i64 b,.int .i64 c,.int .i64 d] 93)) #[.int .i64 0,.int .i64 0,.int .i64 0,.int .i64 0] 93).up (w0:=w) ((Amc _ _).alloc (Am0 _) _)
  rwa [An5]at this
 have HF:Hid (∀W,Below w.heap.size w W->∀u0 u1 u2 u3,Below w.heap.size w ((((W.setCell ⟨w.heap.size+1,0,none⟩ u0).setCell ⟨w.heap.size+1,1,none⟩ u1).setCell ⟨w.heap.size+1,2,none⟩ u2).setCell ⟨w.heap.size+1,3,none⟩ u3)):=fun W h u0 u1 u2 u3 =>
  (((h.setCell (p:=⟨w.heap.size+1,0,none⟩) (by simp) _).setCell (p:=⟨w.heap.size+1,1,none⟩) (by simp) _).setCell (p:=⟨w.heap.size+1,2,none⟩) (by simp) _).setCell (p:=⟨w.heap.size+1,3,none⟩) (by simp) _
 go_enter Vp.func132,Tryz.ntmps132
 go_wp2_with fail
 refine(Bm a b c d _).mono ?_
 rw[hv];rintro e w1 ⟨rfl,hb⟩;replace X0:=X0.step hb;replace X1:=X1.step hb;clear hb;have x0:=X0.cell 0 _ rfl;have x1:=X0.cell 1 _ rfl;have x2:=X0.cell 2 _ rfl;have x3:=X0.cell 3 _ rfl;have c0:=X1.cell 0 _ rfl;have c1:=X1.cell 1 _ rfl;have c2:=X1.cell 2 _ rfl;have c3:=X1.cell 3 _ rfl;have f0:=X1.frozen 0;have f1:=X1.frozen 1;have f2:=X1.frozen 2;have f3:=X1.frozen 3;have HB:=Aly X1.old;clear X0 X1
 go_wp2
 exact Am5 (v:=.tuple #[.agg #[.int .i64 a,.int .i64 b,.int .i64 c,.int .i64 d],.bool true]) (by simp[results,Tryz.f132,go_sem,c0,c1,c2,c3]) rfl ⟨rfl,HF.out _ HB.out _ _ _ _⟩
theorem A75 (x y d:Nat)(a b A B:Int)(hd:d<=11)(hx:Flo.Pt x d a)(hy:Flo.Pt y d b)(ha:a.natAbs<=65536)(hb:b.natAbs<=65536)(hA:A=a *(2^(24-d):Nat))(hB:B=b *(2^(24-d):Nat))
 (h1:-134217728<=A) (h2:A<=134217728) (h3:-134217728<=B) (h4:B<=134217728) (w:World) :
 Calls Vp.prog 89 #[.complex .f32 x y] w fun e w'=>e=.returned (.tuple #[.agg #[.int .i64 A,.int .i64 A,.int .i64 B,.int .i64 B],.bool true])/\Below w.heap.size w w':=by
 have X:=A7.new w #[.int .i64 0,.int .i64 0,.int .i64 0,.int .i64 0] 93
 have HF:Hid (∀W,Below w.heap.size w W->∀u0 u1 u2 u3,Below w.heap.size w ((((W.setCell ⟨w.heap.size,0,none⟩ u0).setCell ⟨w.heap.size,1,none⟩ u1).setCell ⟨w.heap.size,2,none⟩ u2).setCell ⟨w.heap.size,3,none⟩ u3)):=fun W h u0 u1 u2 u3 =>
  (((h.setCell (p:=⟨w.heap.size,0,none⟩) (Am0 _) _).setCell (p:=⟨w.heap.size,1,none⟩) (Am0 _) _).setCell (p:=⟨w.heap.size,2,none⟩) (Am0 _) _).setCell (p:=⟨w.heap.size,3,none⟩) (Am0 _) _
 have HX:=Aly (fun w=>Ha x d a A hd hx ha hA h1 h2 w)
 have HY:=Aly (fun w=>Ha y d b B hd hy hb hB h3 h4 w)
 have HV:Hid (Ap A A B B=true):=by
  show Ap A A B B=true
  unfold Ap H5;simp only[Am8,Amt]
  omega
 clear hx hy hA hB ha hb
 go_enter Vp.func89,Tryz.ntmps89
 go_wp2_with fail
 refine(HX.out _).mono ?_
 rintro e w1 ⟨rfl,rfl⟩
 go_wp2_with fail
 refine(HY.out _).mono ?_
 rintro e w1 ⟨rfl,rfl⟩
 go_wp2_with fail
 refine(A47 A A B B HV.out _).mono ?_
 rintro e w3 ⟨rfl,hb⟩;replace X:=X.step hb;clear hb;have c0:=X.cell 0 _ rfl;have c1:=X.cell 1 _ rfl;have c2:=X.cell 2 _ rfl;have c3:=X.cell 3 _ rfl;have f0:=X.frozen 0;have f1:=X.frozen 1;have f2:=X.frozen 2;have f3:=X.frozen 3;have HB:=Aly X.old;clear X
 go_wp2
 exact Am5 (v:=.tuple #[.agg #[.int .i64 A,.int .i64 A,.int .i64 B,.int .i64 B],.bool true]) (by simp[results,Tryz.f89,go_sem,c0,c1,c2,c3]) rfl ⟨rfl,HF.out _ HB.out _ _ _ _⟩
theorem Mm (d:Nat)(hd:d<=11):(16777216:Int) / 2^d=(2^(24-d):Nat):=by
 rcases(by omega:d=0\/d=1\/d=2\/d=3\/d=4\/d=5\/d=6\/d=7\/d=8\/d=9\/d=10\/d=11)with rfl|rfl|rfl|rfl|rfl|rfl|rfl|rfl|rfl|rfl|rfl|rfl<;>rfl
end
section
open Go.RowKit
def Ajf (x y z u:Int):Value:=.agg #[.int .i64 x,.int .i64 y,.int .i64 z,.int .i64 u]
end
end Go.Proofs.YtjaehldnlamgkaaGreatDoor
section
namespace Go.Proofs.YtjaehldnlamgkaaGreatDoor
namespace Flo
open Ieee
theorem neg_neg (k:FloatKind)(x:Nat):Op.negFloat k (Op.negFloat k x)=x:=by
 unfold Op.negFloat;rw[Nat.xor_assoc,Nat.xor_self,Nat.xor_zero]
end Flo
end Go.Proofs.YtjaehldnlamgkaaGreatDoor
end
namespace Go.Proofs.YtjaehldnlamgkaaGreatDoor
section
open Go.RowKit
theorem A07 (neg:Bool)(t drop:Nat):Ieee.Toward.down.cut neg (t*2^drop) drop=t:=by
 unfold Ieee.Toward.cut;simp only[]
 by_cases hd:drop <=(t*2^drop).log2+2
 ·rw[Nat.min_eq_left hd,Aq0,Nat.mul_div_cancel _ (Am9 _),Nat.mul_mod_left];simp
 ·have h0:t=0:=by
   rcases Ani t with h|h
   ·exact h
   ·exfalso
    have hlt:t*2^drop<2^((t*2^drop).log2+1):=Apm;have h2:2^((t*2^drop).log2+1)<=2^drop:=Amn (by omega) (by omega)
    have h3:=Am3 (2^drop) h
    omega
  subst h0;simp
theorem A7o {z:Nat}{A:Int}(hz:Flo.Cf Ieee.double z (A *(2^Flo.u64:Nat))) :
 ∃s m e,FloatKind.f64.decode z=.number s m e/\Flo.Cf Ieee.double (FloatKind.f64.encode ((Ieee.Datum.number s m e).integral .down)) (A *(2^Flo.u64:Nat)):=by
 refine⟨_,_,_,Flo.Ak hz.fin,?_⟩
 have hd:=Flo.C9 hz;rw[Amq,Ame]at hd
 have hm:Ieee.Toward.down.cut (Flo.Gv Ieee.double z) (Flo.rm Ieee.double (Flo.A8 Ieee.double z) <<<(Ieee.double.leastPlace+Flo.re Ieee.double (Flo.A8 Ieee.double z)).toNat) (-(Ieee.double.leastPlace +(Flo.re Ieee.double (Flo.A8 Ieee.double z):Int))).toNat=A.natAbs:=by
  rw[Flo.Cj];generalize Flo.re Ieee.double (Flo.A8 Ieee.double z)=e at *;generalize Flo.rm Ieee.double (Flo.A8 Ieee.double z)=m at *;generalize Flo.Gv Ieee.double z=s at *
  rcases Nat.le_total Flo.u64 e with h|h
  ·obtain⟨r,rfl⟩:∃r,e=r+Flo.u64:=⟨e-Flo.u64,by omega⟩
   have e1:(-(Flo.u64:Int) +((r+Flo.u64:Nat):Int)).toNat=r:=by omega
   have e2:(-(-(Flo.u64:Int) +((r+Flo.u64:Nat):Int))).toNat=0:=by omega
   rw[e1,e2];rw[Amj,<-Ams]at hd;have hA:=Nat.eq_of_mul_eq_mul_right (Am9 Flo.u64) hd;have:=A07 s A.natAbs 0;rw[Apr,Aqm]at this;rw[Ap3,<-hA];exact this
  ·obtain⟨r,hr⟩:∃r,Flo.u64=r+e:=⟨Flo.u64-e,by omega⟩
   have e1:(-(Flo.u64:Int) +(e:Int)).toNat=0:=by omega
   have e2:(-(-(Flo.u64:Int) +(e:Int))).toNat=r:=by omega
   rw[e1,e2];rw[hr,Amj,<-Ams]at hd;have hA:=Nat.eq_of_mul_eq_mul_right (Am9 e) hd;rw[Nat.shiftLeft_zero,<-hA]
   exact A07 s A.natAbs r
 show Flo.Cf Ieee.double (Ieee.double.nearest (Flo.Gv Ieee.double z) (Ieee.Toward.down.cut (Flo.Gv Ieee.double z) (Flo.rm Ieee.double (Flo.A8 Ieee.double z) <<<(Ieee.double.leastPlace+Flo.re Ieee.double (Flo.A8 Ieee.double z)).toNat) (-(Ieee.double.leastPlace +(Flo.re Ieee.double (Flo.A8 Ieee.double z):Int))).toNat) 0) _
 rw[hm];have hiv:=hz.iv;unfold Flo.iv at hiv
 refine Flo.Ei (a:=Flo.u64) (b:=0) hz.rep (by rw[Flo.Cj];omega) (by rw[Amq,Ame,Apr,Aqm]) (fun hneg=>?_) (fun hpos=>?_)
 ·cases hs:Flo.Gv Ieee.double z
  ·rw[hs]at hiv;simp only[Amk,Ao5]at hiv
   omega
  ·rfl
 ·cases hs:Flo.Gv Ieee.double z
  ·rfl
  ·rw[hs]at hiv;simp only[Apg]at hiv
   omega
theorem Ke (z:Nat)(s:Bool)(m:Nat)(e:Int)(hd:FloatKind.f64.decode z=.number s m e):Go.Extern.MathFloor.toIntegral "math.archFloor" .down #[.float .f64 z]=pure (.float .f64 (FloatKind.f64.encode ((Ieee.Datum.number s m e).integral .down))):=by
 show(match FloatKind.f64.decode z with|.nan s t=>_|d=>pure (Value.float .f64 (FloatKind.f64.encode (d.integral .down))))=_
 rw[hd]
theorem Lh (z:Nat)(w:World):(callFunc 158 #[.float .f64 z]).run Vp.prog w=(do let v <-Go.Extern.MathFloor.toIntegral "math.archFloor" .down #[.float .f64 z];pure (Next.value v)).run Vp.prog w:=by
 kernel_rfl
theorem Yf (z:Nat)(A:Int)(hz:Flo.Cf Ieee.double z (A *(2^Flo.u64:Nat)))(w:World):Calls Vp.prog 127 #[.float .f64 z] w fun e w'=>(∃y,e=.returned (.float .f64 y)/\Flo.Cf Ieee.double y (A *(2^Flo.u64:Nat)))/\w=w':=by
 obtain⟨s,m,e,hd,hv⟩:=A7o hz
 have hr:∀w,(callFunc 158 #[.float .f64 z]).run Vp.prog w=.ok (.value (.float .f64 (FloatKind.f64.encode ((Ieee.Datum.number s m e).integral .down)))) w:=fun w=>by
  rw[Lh,Ke z s m e hd]
  rfl
 have HV:=Aly hv;generalize FloatKind.f64.encode ((Ieee.Datum.number s m e).integral .down)=y at *;clear hz hv hd
 go_enter Vp.func127,Tryz.ntmps127
 go_wp2
 go_ret
 exact⟨⟨y,rfl,HV.out⟩,rfl⟩
end
namespace Co
def HW (P:Program)(s:List Item)(H:List Item->Act->World->Prop)(a:Act)(w:World):Prop :=
 ∀(b:Frame) (k:List Item) (cs:List Frame),∃t a' w',H t a' w'/\Steps P (lone (b.at a (s++k)) cs w) (lone (b.at a' (t++k)) cs w')
section
variable {P : Program} {H : List Item -> Act -> World -> Prop} {a a' : Act} {w w' : World} {s s' : List Item}
theorem HW.stop (h:H s a w):HW P s H a w:=fun b k cs=>⟨s,a,w,h,.refl _ _⟩
theorem HW.mono {H':List Item->Act->World->Prop}(h:HW P s H a w)(k:∀t a w,H t a w->H' t a w):HW P s H' a w:=fun b l cs =>
 let ⟨t,a',w',x,y⟩:=h b l cs
 ⟨t,a',w',k _ _ _ x,y⟩
theorem HW.step (h:∀(b:Frame) (k:List Item) (cs:List Frame),Go.step P (lone (b.at a (s++k)) cs w)=.next (lone (b.at a' (s'++k)) cs w'))(hn:HW P s' H a' w'):HW P s H a w:=fun b k cs =>
 let ⟨t,a2,w2,x,y⟩:=hn b k cs
 ⟨t,a2,w2,x,.head (h b k cs) y⟩
def Ws (N:Act->World->Prop):Exit->Act->World->Prop
 | .normal,a,w=>N a w
 | _,_,_=>False
theorem HW.Pg {c:Code}{N:Act->World->Prop}(h:c.wp P (Ws N) a w)(hn:∀a w,N a w->HW P s H a w):HW P (.code c :: s) H a w:=fun b k cs=>by
 obtain⟨e,a1,w1,hN,harr⟩:=h b (s++k) cs
 cases e<;>first
  | exact hN.elim
  | skip
 obtain⟨t,a2,w2,x,y⟩:=hn a1 w1 hN b k cs
 exact⟨t,a2,w2,x,Steps.trans harr y⟩
theorem HW.Cq {c:Code}(h:c.wp P (Ws fun a w=>HW P s H a w) a w):HW P (.code c :: s) H a w:=.Pg h fun _ _ h=>h
theorem HW.code {c:Code}{N:Act->World->Prop}(h:c.wp P (fun e a w=>e=.normal/\N a w) a w)(hn:∀a w,N a w->HW P s H a w):HW P (.code c :: s) H a w:=fun b k cs=>by
 obtain⟨e,a1,w1,⟨rfl,hN⟩,harr⟩:=h b (s++k) cs;obtain⟨t,a2,w2,x,y⟩:=hn a1 w1 hN b k cs
 exact⟨t,a2,w2,x,Steps.trans harr y⟩
theorem HW.seq {x y:Code}(h:HW P (.code x :: .code y :: s) H a w):HW P (.code (.seq x y) :: s) H a w:=.step (fun _ _ _=>step_seq) h
theorem HW.cond {c:Operand}{x y:Code}{t:Bool}(hc:a.eval c=.bool t)(h:HW P (.code (if t then x else y) :: s) H a w):HW P (.code (.cond c x y) :: s) H a w:=.step (fun _ _ _=>step_cond hc) h
theorem HW.block {id:Nat}{c:Code}(h:HW P (.code c :: .inBlock id :: s) H a w):HW P (.code (.block id c) :: s) H a w:=.step (fun _ _ _=>step_block) h
theorem HW.inBlock {id:Nat}(h:HW P s H a w):HW P (.inBlock id :: s) H a w:=.step (fun _ _ _=>step_inBlock) h
theorem HW.loop {c:Code}(h:HW P (.code c :: .inLoop c :: s) H a w):HW P (.code (.loop c) :: s) H a w:=.step (fun _ _ _=>step_loop) h
theorem HW.inLoop {c:Code}(h:HW P (.code c :: .inLoop c :: s) H a w):HW P (.inLoop c :: s) H a w:=.step (fun _ _ _=>step_inLoop) h
theorem HW.skip (h:HW P s H a w):HW P (.code .skip :: s) H a w:=.step (fun _ _ _=>step_skip) h
theorem Ma {id:Nat}:∀{s s' k:List Item},exitTo id s=some s'->exitTo id (s++k)=some (s'++k)
 | [],_,_,h=>by simp[exitTo]at h
 | x :: s,s',k,h=>by
   cases x with
   | inBlock j =>
     simp only[exitTo,An9]at h ⊢
     split at h
     ·rename_i e
      rw[Amo e]
      cases h
      rfl
     ·rename_i e
      rw[Amd e]
      exact Ma h
   | _ =>
     simp only[exitTo,An9]at h ⊢
     exact Ma h
theorem HW.exit {id:Nat}(h0:exitTo id s=some s')(h:HW P s' H a w):HW P (.code (.exit id) :: s) H a w:=.step (fun _ _ _=>step_exit (Ma h0)) h
end
end Co
section
open Go.RowKit Co
attribute [local go_sem ↓] Go.wp_at_zero Go.wp_at_succ
attribute [local go_sem] Av Am
theorem Hg {P:Program}(w:World){ops:Array Oper}{o:Oper}{a:Act}{K:Act->World->Prop}{Q:Exit->Act->World->Prop}{E:Prop}(hgd:o.guard=none)(s x:Operand)(t:TypeId)
 (ho:o.op=.call { callee:=.builtin .append,args:=#[s,x],argTypes:=#[t,t] })
 (base:Nat) (e:TypeId) (i:TypeInfo) (size:Nat) (ht:P.underlying t=some (.slice e)) (hi:P.info? e=some i) (hsize:i.size=size)
 (g n cap:Nat) (xs:List Value) (hs:a.eval s=.slice (some ⟨g,0,none⟩) n cap) (hown:w.ownsRow base e size (.slice (some ⟨g,0,none⟩) n cap) n xs)
 (ad:Addr) (m c:Nat) (news:List Value) (hx:a.eval x=.slice (some ad) m c) (hl:news.length=m*size) (hnews:∀j u,news[j]?=some u->w.cell? (ad.add j)=some u) (h1:∀u∈news,u.oneCell'=true)
 (hroom:n+m<=cap)
 (h:∀w',w'.ownsRow base e size (.slice (some ⟨g,0,none⟩) (n+m) cap) (n+m) (xs++news)->w.grownBy w' (some g)->K (a.put o.dst (.slice (some ⟨g,0,none⟩) (n+m) cap)) w') :
 if Region.wanted o (yielded ops a.tmps)=true then Oper.wp P o a w K Q else E:=by
 have hw:Region.wanted o (yielded ops a.tmps)=true:=by simp[Region.wanted,hgd]
 rw[Amo hw]
 exact wp_append_own_spare w s x t ho base e i size ht hi hsize g n cap xs hs hown ad m c news hx hl hnews h1 hroom h
structure RW (w:World)(rb cap N M gs gm:Nat)(xs:List Nat)(ys:List Int)(W:World):Prop where
 R:A7 w rb #[.slice (some ⟨gs,0,none⟩) N cap,.slice (some ⟨gm,0,none⟩) M cap] 91 W
 S:W.ownsRow w.heap.size 87 1 (.slice (some ⟨gs,0,none⟩) N cap) N (xs.map Db)
 M:W.ownsRow w.heap.size 3 1 (.slice (some ⟨gm,0,none⟩) M cap) M (ys.map By)
 hr:w.heap.size<=rb
section
variable {w W W' : World} {rb cap N M gs gm : Nat} {xs : List Nat} {ys : List Int}
theorem RW.step (h:RW w rb cap N M gs gm xs ys W)(k:Below W.heap.size W W'):RW w rb cap N M gs gm xs ys W':=⟨h.R.step k,C4 h.S k,C4 h.M k,h.hr⟩
theorem RW.alloc (h:RW w rb cap N M gs gm xs ys W)(o:Obj):RW w rb cap N M gs gm xs ys (W.alloc o):=h.step ((Amc _ _).alloc (Am0 _) o)
theorem RW.drw (h:RW w rb cap N M gs gm xs ys W)(k:Bp W W'):RW w rb cap N M gs gm xs ys W':=h.step (k.below _)
theorem RW.old (h:RW w rb cap N M gs gm xs ys W):Below w.heap.size w W:=h.R.old
theorem RW.c0 (h:RW w rb cap N M gs gm xs ys W):W.cell? ⟨rb,0,none⟩=some (.slice (some ⟨gs,0,none⟩) N cap):=h.R.cell 0 _ rfl
theorem RW.c1 (h:RW w rb cap N M gs gm xs ys W):W.cell? ⟨rb,1,none⟩=some (.slice (some ⟨gm,0,none⟩) M cap):=h.R.cell 1 _ rfl
theorem RW.It (h:RW w rb cap N M gs gm xs ys W){z:Nat}(hown:W'.ownsRow w.heap.size 87 1 (.slice (some ⟨gs,0,none⟩) (N+1) cap) (N+1) (xs.map Db++[Db z]))(hg:W.grownBy W' (some gs)) :
 RW w rb cap (N+1) M gs gm (xs++[z]) ys (W'.setCell ⟨rb,0,none⟩ (.slice (some ⟨gs,0,none⟩) (N+1) cap))/\W'.cell? ⟨rb,0,none⟩=some (.slice (some ⟨gs,0,none⟩) N cap)/\W'.frozen? ⟨rb,0,none⟩=false:=by
 have hrow:∀k,some gs=some k->w.heap.size<=k:=fun k hk=>(h.S.lt k hk).1
 have R:=h.R.grown hg (Bg h.S h.R.blk (by decide)) hrow
 have M:=h.M.kept hg (Df h.M h.S (by decide))
 refine⟨⟨?_,?_,Aa M R.blk (by decide) _,h.hr⟩,R.cell 0 _ rfl,R.frozen 0⟩
 ·have:=R.set h.hr 0 (.slice (some ⟨gs,0,none⟩) (N+1) cap)
  exact this
 ·rw[Aok]
  exact Aa hown R.blk (by decide) _
theorem RW.mark (h:RW w rb cap N M gs gm xs ys W){z:Int}(hown:W'.ownsRow w.heap.size 3 1 (.slice (some ⟨gm,0,none⟩) (M+1) cap) (M+1) (ys.map By++[By z]))(hg:W.grownBy W' (some gm)) :
 RW w rb cap N (M+1) gs gm xs (ys++[z]) (W'.setCell ⟨rb,1,none⟩ (.slice (some ⟨gm,0,none⟩) (M+1) cap))/\W'.cell? ⟨rb,1,none⟩=some (.slice (some ⟨gm,0,none⟩) M cap)/\W'.frozen? ⟨rb,1,none⟩=false:=by
 have hrow:∀k,some gm=some k->w.heap.size<=k:=fun k hk=>(h.M.lt k hk).1
 have R:=h.R.grown hg (Bg h.M h.R.blk (by decide)) hrow
 have S:=h.S.kept hg (Df h.S h.M (by decide))
 refine⟨⟨?_,Aa S R.blk (by decide) _,?_,h.hr⟩,R.cell 1 _ rfl,R.frozen 1⟩
 ·have:=R.set h.hr 1 (.slice (some ⟨gm,0,none⟩) (M+1) cap)
  exact this
 ·rw[Aok]
  exact Aa hown R.blk (by decide) _
end
theorem Y3 (w:World)(o:Obj):(w.alloc o).heap=w.heap.push o:=rfl
theorem Ae1 (w:World):w.drew.heap=w.heap:=rfl
theorem Wv (h:Array Obj)(a b c:Obj):(((h.push a).push b).push c)[h.size]?=some a /\(((h.push a).push b).push c)[h.size+1]?=some b /\(((h.push a).push b).push c)[h.size+1+1]?=some c:=by
 refine⟨?_,?_,?_⟩
 ·rw[Ama,Amd (by simp;omega),Ama,Amd (by simp),Ama,Amo rfl]
 ·rw[Ama,Amd (by simp),Ama,Amo (by simp)]
 ·rw[Ama,Amo (by simp)]
theorem Dq {P:Program}(t e:TypeId)(i:TypeInfo)(z:Value)(ht:P.underlying t=some (.slice e))(hi:P.info? e=some i)(hz:i.zero=some z)(n:Nat)(hb:i.bytes<=128)(hn:n<=1099511627776) :
 ∃C:Array Value,C.size=n*i.size/\∀w:World,(Instr.makeSlice t (.int .i64 0) (.int .i64 n)).run P w=.ok (.slice (some ⟨w.heap.size,0,none⟩) 0 n) (w.alloc (.cells C e)):=by
 refine⟨madeCells z.cells (n*i.size),size_madeCells _ _,fun w=>?_⟩
 have hm:i.bytes*n<=128*1099511627776:=Ap4 hb hn;have hm2:((i.bytes*n:Nat):Int)=(i.bytes:Int)*n:=by simp
 have h:=run_make w t e i z ht hi hz .i64 .i64 (0:Int) n (by omega) (by omega) (by omega) (by omega)
 rw[Anc]at h
 exact h
theorem RW.start {w W:World}{rb gs gm cap:Nat}{C D:Array Value}(hC:C.size=cap)(hD:D.size=cap)(hgs:w.heap.size<=gs)(hgm:w.heap.size<=gm)(hrb:w.heap.size<=rb)(hcap:cap<=8)(hW:Below w.heap.size w W)
 (hs:W.heap[gs]?=some (.cells C 87 (0,0))) (hm:W.heap[gm]?=some (.cells D 3 (0,0)))
 (hr:W.heap[rb]?=some (.cells #[.slice (some ⟨gs,0,none⟩) 0 cap,.slice (some ⟨gm,0,none⟩) 0 cap] 91 (0,0))):RW w rb cap 0 0 gs gm [] [] W :=
 ⟨⟨hr,hW⟩,⟨by simp,.inr ⟨gs,cap,_,rfl,hgs,hs,Amu _,by unfold maxLen;omega,by simp[hC],by simp⟩⟩,⟨by simp,.inr ⟨gm,cap,_,rfl,hgm,hm,Amu _,by unfold maxLen;omega,by simp[hD],by simp⟩⟩,hrb⟩
structure Jl (cx cy d n:Nat)(A6:Int)(px py:Nat->Nat->Nat)(bx:Nat->Nat->Value)(st:Nat->Nat->Int)(sm:Nat->Nat->Nat):Prop where
 pt:∀k l:Nat,k<n->l<n->∀W,Calls Vp.prog 44 #[.complex .f32 cx cy,.int .i64 d,.int .i64 k,.int .i64 l] W fun e w'=>e=.returned (.complex .f32 (px k l) (py k l))/\W=w'
 box:∀k l:Nat,k<n->l<n->∀W,Calls Vp.prog 86 #[.complex .f32 (px k l) (py k l),.int .i64 d] W fun e w'=>e=.returned (bx k l)/\Below W.heap.size W w'
 state:∀k l:Nat,k<n->l<n->∀W,Calls Vp.prog 85 #[bx k l,.int .i64 A6] W fun e w'=>e=.returned (.tuple #[.int .i64 (st k l),.bool true])/\Below W.heap.size W w'
 It:∀k l:Nat,k<n->l<n->∀W,Calls Vp.prog 87 #[.complex .f32 (px k l) (py k l),.int .i64 A6] W fun e w'=>e=.returned (.float .f32 (sm k l))/\Below W.heap.size W w'
noncomputable def F0:Code:=Tryz.f45.body.getD .skip
noncomputable def sX0:Code:=match F0 with|.seq _ (.seq _ (.block _ (.loop x)))=>x|_=>.skip
noncomputable def A4q:Code:=match sX0 with|.seq _ (.seq _ (.seq (.block _ r) _))=>r|_=>.skip
noncomputable def sR3:Code:=match A4q with|.seq a _=>a|_=>.skip
noncomputable def sR4:Code:=match A4q with|.seq _ (.seq a _)=>a|_=>.skip
noncomputable def sIn:Code:=match A4q with|.seq _ (.seq _ (.seq a _))=>a|_=>.skip
def Ade (ch:Value)(cx cy d n:Nat)(A6:Int)(st:Nat->Nat->Int)(sm:Nat->Nat->Nat)(ds:List Deferred)(w:World)(i:Nat)(a:Act)(W:World):Prop :=
 ∃rb gs gm,a.tmps.size=61/\a.defers=ds/\a.tmps[0]?=some ch/\a.tmps[1]?=some (.complex .f32 cx cy)/\a.tmps[2]?=some (.int .i64 d)/\a.tmps[3]?=some (.int .i64 n)/\a.tmps[4]?=some (.int .i64 A6) /\
  a.tmps[17]?=some (.int .i64 n)/\a.tmps[18]?=some (.int .i64 i)/\a.tmps[11]?=some (.pointer (some ⟨rb,0,none⟩))/\RW w rb n n n gs gm ((List.range n).map (sm i)) ((List.range n).map (st i)) W
theorem Ak1 {cx cy d n:Nat}{A6:Int}{px py:Nat->Nat->Nat}{bx:Nat->Nat->Value}{st:Nat->Nat->Int}{sm:Nat->Nat->Nat}(C:Jl cx cy d n A6 px py bx st sm)(hn:n<=8)(i:Nat)(hi:i<n)(ch:Value)(ds:List Deferred)(rb gs gm:Nat)(x5 x6 x7 x8 x9 x12 x13 x14 x15 x16 x19 x20 x21 x23 x25 x26 x27 x28 x29 x30 x31 x32 x33 x34 x35 x36 x37 x38 x39 x40 x41 x42 x43 x44 x45 x46 x47 x48 x49 x50 x51 x52 x53 x54 x55 x56 x57 x58 x59 x60:Value)(w W:World)(T:RW w rb n 0 0 gs gm [] [] W) :
 sIn.wp Vp.prog (Ws fun a w3=>Ade ch cx cy d n A6 st sm ds w i a w3) ⟨#[ch,.complex .f32 cx cy,.int .i64 d,.int .i64 n,.int .i64 A6,x5,x6,x7,x8,x9,.int .i64 i,.pointer (some ⟨rb,0,none⟩),x12,x13,x14,x15,x16,.int .i64 n,.int .i64 i,x19,x20,x21,.slice (some ⟨gs,0,none⟩) 0 n,x23,.slice (some ⟨gm,0,none⟩) 0 n,x25,x26,x27,x28,x29,x30,x31,x32,x33,x34,x35,x36,x37,x38,x39,x40,x41,x42,x43,x44,x45,x46,x47,x48,x49,x50,x51,x52,x53,x54,x55,x56,x57,x58,x59,x60],ds⟩ W:=by
 obtain⟨iF,hiF,hzF0,hzF1,hzF2⟩:=Ap2 A17;obtain⟨iI,hiI,hzI0,hzI1,hzI2⟩:=Ap2 Wf;have HT:=Aly T;have HC:=Aly C;clear T C;unfold sIn A4q sX0 F0 Tryz.f45;dsimp only[Option.getD]
 go_wp2
 go_loopw [12,13,14,15,27,28,29,30,31,32,33,34,35,36,37,38,39,40,41,42,43,44,45,46,47,48,49,50,51,52,53,54,55,56,57] (fun _ _ _ _ c _ _ _ _ _ _ _ _ _ _ _ _ _ _ _ _ _ _ _ _ _ _ _ _ _ _ _ _ _ _ wr=>∃l:Nat,l<=n/\c=.int .i64 l/\Hid (RW w rb n l l gs gm ((List.range l).map (sm i)) ((List.range l).map (st i)) wr)) (fun _ _ _ _ c _ _ _ _ _ _ _ _ _ _ _ _ _ _ _ _ _ _ _ _ _ _ _ _ _ _ _ _ _ _ _=>(n-intOf c).toNat)
 case atStart=>exact⟨0,by omega,rfl,HT⟩
 case round =>
  clear HT;obtain⟨l,hl,rfl,HT⟩:=hrel;obtain⟨wo,rfl⟩:∃wo,wo=wr:=⟨_,rfl⟩
  by_cases hls:l<n
  ·go_wp2_with fail
   refine(HC.out.pt i l hi hls _).mono ?_
   rintro e w1 ⟨rfl,rfl⟩
   go_wp2_with fail
   refine(HC.out.box i l hi hls _).mono ?_
   rintro e w2 ⟨rfl,hb⟩;have HT1:=Aly (HT.out.step hb);clear HT hb
   go_wp2_with fail
   refine(HC.out.state i l hi hls _).mono ?_
   rintro e w3 ⟨rfl,hb⟩;have T3:=HT1.out.step hb;clear HT1 hb;have k3:=T3.c0
   go_wp2_with fail
   go_region_law (first
    |(go_simp
      go_at_call 87
      refine(HC.out.It i l hi hls _).mono ?_
      rintro e w5 ⟨rfl,hb⟩;have T5:=(T3.drw (Bp.refl _).drew).step hb;have k5:=T5.c0;have k5':=(T5.alloc (.cells #[.float .f32 (sm i l)] 87)).c0;clear hb)
    |(refine Hg _ (by rfl) _ _ _ (by rfl) w.heap.size 87 iF 1 (Vp.Bl Tryz.underlying40) hiF hzF1 gs l n (((List.range l).map (sm i)).map Db) (by rfl) (T5.S.alloc _) ⟨w5.heap.size,0,none⟩ 1 1 [Db (sm i l)] (by rfl) (by rfl) (World.news_of_block (cs:=#[Db (sm i l)]) (t:=87) (fr:=(0,0)) (Aox w5 _)) (by simp[Db,Value.oneCell']) (by omega) ?_
      intro w6 hown hgrow;obtain⟨T6,k6,f6⟩:=(T5.alloc _).It hown hgrow))
   all_goals
    have HT6:=Aly T6;have k7:=T6.c1;have k8:=(T6.alloc (.cells #[.int .i64 (st i l)] 3)).c1;clear T3 T5 T6 k3 k5 k5' k6 f6 hown hgrow;generalize w6.setCell ⟨rb,0,none⟩ (.slice (some ⟨gs,0,none⟩) (l+1) n)=w7 at *
    go_wp2_with (at_builtin;refine wpList_append_own_spare _ rfl _ _ _ rfl w.heap.size 3 iI 1 (Vp.Bl Tryz.underlying41) hiI hzI1 gm l n (((List.range l).map (st i)).map By) rfl (HT6.out.M.alloc _) ⟨w7.heap.size,0,none⟩ 1 1 [By (st i l)] rfl rfl (World.news_of_block (cs:=#[By (st i l)]) (t:=3) (fr:=(0,0)) (Aox w7 _)) (by simp[By,Value.oneCell']) (by omega) ?_;intro w8 hown hgrow;obtain⟨T8,k9,f9⟩:=(HT6.out.alloc _).mark hown hgrow;have HT8:=Aly T8;clear T8 hown hgrow)
    go_roundw
    case rel=>exact⟨l+1,by omega,by go_num,(by show RW _ _ _ _ _ _ _ _ _ _;rw[List.range_succ,Aok,Aok];exact HT8.out)⟩
    case measure=>simp[intOf];omega
  ·obtain rfl:l=n:=by omega
   go_wp2
   exact⟨rb,gs,gm,rfl,rfl,rfl,rfl,rfl,rfl,rfl,rfl,rfl,rfl,HT.out⟩
theorem Ahx {cx cy d n:Nat}{A6:Int}{px py:Nat->Nat->Nat}{bx:Nat->Nat->Value}{st:Nat->Nat->Int}{sm:Nat->Nat->Nat}(C:Jl cx cy d n A6 px py bx st sm)(hn:n<=8)(i:Nat)(hi:i<n)(ch:Value)(ds:List Deferred)(x5 x6 x7 x8 x9 x10 x11 x12 x13 x14 x15 x16 x19 x20 x21 x22 x23 x24 x25 x26 x27 x28 x29 x30 x31 x32 x33 x34 x35 x36 x37 x38 x39 x40 x41 x42 x43 x44 x45 x46 x47 x48 x49 x50 x51 x52 x53 x54 x55 x56 x57 x58 x59 x60:Value)(w:World) :
 sR3.wp Vp.prog (Ws fun a w1=>sR4.wp Vp.prog (Ws fun a w2=>sIn.wp Vp.prog (Ws fun a w3=>Ade ch cx cy d n A6 st sm ds w i a w3) a w2) a w1) ⟨#[ch,.complex .f32 cx cy,.int .i64 d,.int .i64 n,.int .i64 A6,x5,x6,x7,x8,x9,x10,x11,x12,x13,x14,x15,x16,.int .i64 n,.int .i64 i,x19,x20,x21,x22,x23,x24,x25,x26,x27,x28,x29,x30,x31,x32,x33,x34,x35,x36,x37,x38,x39,x40,x41,x42,x43,x44,x45,x46,x47,x48,x49,x50,x51,x52,x53,x54,x55,x56,x57,x58,x59,x60],ds⟩ w:=by
 obtain⟨iF,hiF,hzF0,hzF1,hzF2⟩:=Ap2 A17;obtain⟨iI,hiI,hzI0,hzI1,hzI2⟩:=Ap2 Wf;obtain⟨cF,hcF,hF⟩:=Dq (P:=Vp.prog) 40 87 iF _ (Vp.Bl Tryz.underlying40) hiF hzF0 n (by omega) (by omega)
 obtain⟨cI,hcI,hI⟩:=Dq (P:=Vp.prog) 41 3 iI _ (Vp.Bl Tryz.underlying41) hiI hzI0 n (by omega) (by omega)
 unfold sR3 A4q sX0 F0 Tryz.f45;dsimp only[Option.getD]
 go_wp2
 show Code.wp Vp.prog sR4 _ _ _
 unfold sR4 A4q sX0 F0 Tryz.f45;dsimp only[Option.getD]
 go_region
 all_goals
  clear hF hI
  refine Ak1 C hn i hi ch ds _ _ _ _ _ _ _ _ _ _ _ _ _ _ _ _ _ _ _ _ _ _ _ _ _ _ _ _ _ _ _ _ _ _ _ _ _ _ _ _ _ _ _ _ _ _ _ _ _ _ _ _ _ w _ ?_
  refine RW.start (cap:=n) (by rw[hcF,hzF1];omega) (by rw[hcI,hzI1];omega) (by omega) (by omega) (by omega) hn ?_ ?_ ?_ ?_
  ·exact((((Amc _ _).alloc (Am0 _) _).alloc (by simp) _).alloc (by simp;omega) _).drew
  all_goals
   simp only[Y3,Ae1]
   first|exact(Wv _ _ _ _).1|exact(Wv _ _ _ _).2.1|exact(Wv _ _ _ _).2.2
end
namespace Ok
open Go.Conc Lr
def A6q:Nat->String
 | 0 => "0"
 | 9 => "9"
 | 10 => "10"
 | 12 => "12"
 | 13 => "13"
 | _ => ""
def cut (ids:List Nat):Code->Code
 | .region id ops d=>if ids.contains id then .refuse (A6q id)else .region id ops d
 | .seq a b=>.seq (cut ids a) (cut ids b)
 | .cond c a b=>.cond c (cut ids a) (cut ids b)
 | .rangeFunc f p a b=>.rangeFunc f p (cut ids a) (cut ids b)
 | .block i c=>.block i (cut ids c)
 | .loop c=>.loop (cut ids c)
 | .scope c=>.scope (cut ids c)
 | .refuse w=>.refuse w
 | .goto l=>.goto l
 | .skip=>.skip
 | .ret=>.ret
 | .exit i=>.exit i
 | .label l=>.label l
def I7:Code->List (Nat×Array Oper×Bool)
 | .region id ops d=>[(id,ops,d)]
 | .seq a b=>I7 a++I7 b
 | .cond _ a b=>I7 a++I7 b
 | .rangeFunc _ _ a b=>I7 a++I7 b
 | .block _ c=>I7 c
 | .loop c=>I7 c
 | .scope c=>I7 c
 | _=>[]
def Fo (P:Program)(cl gl ids:List Nat):Code->Bool
 | .region id ops d=>ids.contains id || okC P cl gl (.region id ops d)
 | .seq a b=>Fo P cl gl ids a && Fo P cl gl ids b
 | .cond c a b=>Ni cl gl c && (Fo P cl gl ids a && Fo P cl gl ids b)
 | .rangeFunc f _ a b=>Ni cl gl f && (Fo P cl gl ids a && Fo P cl gl ids b) && (Fl (cut ids a) && Fl (cut ids b))
 | .block _ c|.loop c|.scope c=>Fo P cl gl ids c
 | .goto _|.refuse _=>false
 | .skip|.ret|.exit _|.label _=>true
theorem Hi {X:Cx}{P:Program}{cl gl:List Nat}(hc:∀f∈cl,X.C f/\¬X.T f)(hg:∀g∈gl,X.G g)(hK:∀o,Ah1 P cl gl o=true->X.K o)(ids:List Nat):∀(c:Code),(∀r∈I7 c,ids.contains r.1=true->X.R (A6q r.1) (.region r.1 r.2.1 r.2.2))->Fo P cl gl ids c=true->CdR X (cut ids c) c
 | .refuse _,_,h=>by simp[Fo]at h
 | .region id ops d,hR,h=>by
   unfold cut;unfold Fo at h
   by_cases hn:ids.contains id=true
   ·rw[Amo hn]
    exact .inr (hR (id,ops,d) (by simp[I7]) hn)
   ·rw[Amd hn];rw[Ane]at h
    exact Cz hc hg hK (.region id ops d) (h.resolve_left hn)
 | .seq a b,hR,h=>by
   simp only[Fo,Am8]at h
   exact⟨a,b,rfl,Hi hc hg hK ids a (fun r x=>hR r (by simp[I7,x])) h.1,Hi hc hg hK ids b (fun r x=>hR r (by simp[I7,x])) h.2⟩
 | .cond c a b,hR,h=>by
   simp only[Fo,Am8]at h
   exact⟨a,b,rfl,K4 hc hg h.1,Hi hc hg hK ids a (fun r x=>hR r (by simp[I7,x])) h.2.1,Hi hc hg hK ids b (fun r x=>hR r (by simp[I7,x])) h.2.2⟩
 | .rangeFunc f p a b,hR,h=>by
   simp only[Fo,Am8]at h
   exact⟨a,b,rfl,K4 hc hg h.1.1,(Hi hc hg hK ids a (fun r x=>hR r (by simp[I7,x])) h.1.2.1).noD h.2.1,(Hi hc hg hK ids b (fun r x=>hR r (by simp[I7,x])) h.1.2.2).noD h.2.2⟩
 | .block _ c,hR,h=>⟨c,rfl,Hi hc hg hK ids c (fun r x=>hR r x) h⟩
 | .loop c,hR,h=>⟨c,rfl,Hi hc hg hK ids c (fun r x=>hR r x) h⟩
 | .scope c,hR,h=>⟨c,rfl,Hi hc hg hK ids c (fun r x=>hR r x) h⟩
 | .goto _,_,h=>by simp[Fo]at h
 | .skip,_,_=>rfl
 | .ret,_,_=>rfl
 | .exit _,_,_=>rfl
 | .label _,_,_=>rfl
end Ok
namespace Ok
open Go.Conc Lr
def Gi (P:Program)(f:Nat):Code:=((P.funcs[f]?).bind (·.body)).getD .skip
def M8:List (Nat×List Nat):=[(45,[0,13]),(17,[9,10,12])]
def Rc (P:Program)(why:String)(d:Code):Prop:=∃k∈M8,∃r∈I7 (Gi P k.1),k.2.contains r.1=true/\why=A6q r.1/\d=.region r.1 r.2.1 r.2.2
theorem Aaa {P P':Program}{cl:List Nat}{D F:Nat->Prop}(ids:List Nat)(f:Nat)(hk:(f,ids)∈M8)(c:Code)(hc:Gi P f=c)(h:Fo P' cl [] ids c=true):CdR (cx P' cl (Rc P) D F) (cut ids c) c:=by
 subst hc
 exact Hi (X:=cx P' cl (Rc P) D F) (cl:=cl) (gl:=[]) Ajj (fun g h=>by cases h) (fun o h=>h) ids (Gi P f) (fun r hr hi=>⟨(f,ids),hk,r,hr,hi,rfl,rfl⟩) h
theorem Adr:Fo Vp.prog phs [] [0,13] (Gi Tryz.prog 45)=true:=by kernel_rfl
theorem Ado:Fo Vp.prog phs [] [9,10,12] (Gi Tryz.prog 17)=true:=by kernel_rfl
end Ok
end Go.Proofs.YtjaehldnlamgkaaGreatDoor
