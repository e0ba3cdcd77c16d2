/- Merged texts: TilM, TilR, TilE, TilG, PtW. -/
import Derived.Test.YthhfljldbfgpcaaGreatDoorT4
import Derived.Test.YthhfljldbfgpcaaGreatDoorT18
import Derived.Laws.OwnMore
import Derived.OwnWalk
import Derived.Deep.AppendLies
import Derived.Deep.RegionWith
import Derived.Deep.DrawnRows
import Derived.Deep.Cut
import Derived.Outline
set_option linter.all false
section
namespace Go.Proofs.YthhfljldbfgpcaaGreatDoor
open Go.RowKit
def floV (x:Nat):Value:=.float .f32 x
def intV (x:Int):Value:=.int .i64 x
def tileV (cx cy:Nat) (deep size:Int) (sm mk:Value):Value:=.agg #[.complex .f32 cx cy,.int .i64 deep,.int .i64 size,sm,mk]
def tileC (cx cy:Nat) (deep size:Int) (sm mk:Value):Array Value:=#[.complex .f32 cx cy,.int .i64 deep,.int .i64 size,sm,mk]
theorem infoF:(Vp.prog.info? 42).map (fun i => (i.zero,i.size,i.bytes))=some (some (.float .f32 0),1,4):=by kernel_rfl
theorem infoI:(Vp.prog.info? 3).map (fun i => (i.zero,i.size,i.bytes))=some (some (.int .i64 0),1,8):=by kernel_rfl
theorem ownsRow_ne {w:World} {base:Nat} {e:TypeId} {size:Nat} {v:Value} {n:Nat} {xs:List Value} (h:w.ownsRow base e size v n xs) {b:Nat} {C:Array Value} {T:TypeId} (hb:w.heap[b]?=some (.cells C T (0,0))) (hne:e ≠ T):v.ownBlock ≠ some b:=by
 rcases h.2 with ⟨rfl,_⟩ | ⟨g,cap,cur,rfl,_,hg,_⟩
 · simp [Value.ownBlock]
 · intro he
   simp [Value.ownBlock] at he
   subst he
   rw [hg] at hb
   injection hb with hb
   injection hb with _ hb _
   exact hne hb
theorem ownsRow_apart {w:World} {base base':Nat} {e e':TypeId} {size size':Nat} {v v':Value} {n n':Nat} {xs xs':List Value} (h:w.ownsRow base e size v n xs) (h':w.ownsRow base' e' size' v' n' xs') (hne:e ≠ e'):v.ownBlock=none ∨ v.ownBlock ≠ v'.ownBlock:=by
 rcases h'.2 with ⟨rfl,_⟩ | ⟨g,cap,cur,rfl,_,hg,_⟩
 · cases hv:v.ownBlock
   · exact .inl rfl
   · exact .inr (by simp [Value.ownBlock])
 · exact .inr (ownsRow_ne h hg hne)
theorem ownsRow_step {w w':World} {base:Nat} {e:TypeId} {size:Nat} {v:Value} {n:Nat} {xs:List Value} (h:w.ownsRow base e size v n xs) (k:Below w.heap.size w w'):w'.ownsRow base e size v n xs :=
 h.kept ⟨k.os,k.tape,k.output,k.size,fun i hi _ => k.block i hi⟩ (row:=none) (by cases hv:v.ownBlock <;> simp)
theorem Box.grown {w0 W W':World} {b:Nat} {C:Array Value} {T:TypeId} (h:Box w0 b C T W) {row:Option Nat} (hg:W.grownBy W' row) (hne:row ≠ some b) (hrow:∀ k,row=some k → w0.heap.size ≤ k):Box w0 b C T W' :=
 ⟨(hg.block b h.lt (fun e => hne e.symm)).trans h.blk,h.old.grown hg h.old.size hrow⟩
structure TM (w:World) (rb ob:Nat) (cx cy:Nat) (deep size:Int) (n m:Nat) (xs:List Nat) (ys:List Int) (smv mkv:Value) (W:World):Prop where
 O:Box w ob (tileC cx cy deep size smv mkv) 29 W
 R:Box w rb (tileC 0 0 0 0 (.slice none 0 0) (.slice none 0 0)) 29 W
 S:W.ownsRow w.heap.size 42 1 smv n (xs.map floV)
 M:W.ownsRow w.heap.size 3 1 mkv m (ys.map intV)
 hx:∀ x,x ∈ xs → x < 4294967296
 hy:∀ y,y ∈ ys → -1 ≤ y ∧ y ≤ 1
 ne:rb ≠ ob
 hr:w.heap.size ≤ rb
 ho:w.heap.size ≤ ob
theorem TM.step {w:World} {rb ob cx cy n m:Nat} {deep size:Int} {xs:List Nat} {ys:List Int} {smv mkv:Value} {W W':World} (h:TM w rb ob cx cy deep size n m xs ys smv mkv W) (k:Below W.heap.size W W'):TM w rb ob cx cy deep size n m xs ys smv mkv W' :=
 ⟨h.O.step k,h.R.step k,ownsRow_step h.S k,ownsRow_step h.M k,h.hx,h.hy,h.ne,h.hr,h.ho⟩
theorem TM.alloc {w:World} {rb ob cx cy n m:Nat} {deep size:Int} {xs:List Nat} {ys:List Int} {smv mkv:Value} {W:World} (h:TM w rb ob cx cy deep size n m xs ys smv mkv W) (o:Obj):TM w rb ob cx cy deep size n m xs ys smv mkv (W.alloc o) :=
 h.step ((Below.refl _ _).alloc (Nat.le_refl _) o)
theorem TM.drw {w:World} {rb ob cx cy n m:Nat} {deep size:Int} {xs:List Nat} {ys:List Int} {smv mkv:Value} {W W':World} (h:TM w rb ob cx cy deep size n m xs ys smv mkv W) (k:Drw W W'):TM w rb ob cx cy deep size n m xs ys smv mkv W':=h.step (k.below _)
theorem TM.old {w:World} {rb ob cx cy n m:Nat} {deep size:Int} {xs:List Nat} {ys:List Int} {smv mkv:Value} {W:World} (h:TM w rb ob cx cy deep size n m xs ys smv mkv W):Below w.heap.size w W:=h.O.old
theorem ownsRow_set {w:World} {base:Nat} {e:TypeId} {size:Nat} {v:Value} {n:Nat} {xs:List Value} (h:w.ownsRow base e size v n xs) {b j:Nat} {C:Array Value} {T:TypeId} (hb:w.heap[b]?=some (.cells C T (0,0))) (hne:e ≠ T) (u:Value):(w.setCell ⟨b,j,none⟩ u).ownsRow base e size v n xs :=
 ownsRow_setCell_other h (ownsRow_ne h hb hne) u
theorem Box.cells5 {w0 W:World} {b:Nat} {v0 v1 v2 v3 v4:Value} {T:TypeId} (h:Box w0 b #[v0,v1,v2,v3,v4] T W) :
   W.cell? ⟨b,0,none⟩=some v0 ∧ W.cell? ⟨b,1,none⟩=some v1 ∧ W.cell? ⟨b,2,none⟩=some v2 ∧ W.cell? ⟨b,3,none⟩=some v3 ∧ W.cell? ⟨b,4,none⟩=some v4 :=
 ⟨h.cell 0 _ rfl,h.cell 1 _ rfl,h.cell 2 _ rfl,h.cell 3 _ rfl,h.cell 4 _ rfl⟩
theorem Box.free5 {w0 W:World} {b:Nat} {C:Array Value} {T:TypeId} (h:Box w0 b C T W) :
   W.frozen? ⟨b,0,none⟩=false ∧ W.frozen? ⟨b,1,none⟩=false ∧ W.frozen? ⟨b,2,none⟩=false ∧ W.frozen? ⟨b,3,none⟩=false ∧ W.frozen? ⟨b,4,none⟩=false :=
 ⟨h.frozen 0,h.frozen 1,h.frozen 2,h.frozen 3,h.frozen 4⟩
theorem TM.oc {w:World} {rb ob cx cy n m:Nat} {deep size:Int} {xs:List Nat} {ys:List Int} {smv mkv:Value} {W:World} (h:TM w rb ob cx cy deep size n m xs ys smv mkv W) :
   W.cell? ⟨ob,0,none⟩=some (.complex .f32 cx cy) ∧ W.cell? ⟨ob,1,none⟩=some (.int .i64 deep) ∧ W.cell? ⟨ob,2,none⟩=some (.int .i64 size) ∧ W.cell? ⟨ob,3,none⟩=some smv ∧ W.cell? ⟨ob,4,none⟩=some mkv:=h.O.cells5
theorem TM.rc {w:World} {rb ob cx cy n m:Nat} {deep size:Int} {xs:List Nat} {ys:List Int} {smv mkv:Value} {W:World} (h:TM w rb ob cx cy deep size n m xs ys smv mkv W) :
   W.cell? ⟨rb,0,none⟩=some (.complex .f32 0 0) ∧ W.cell? ⟨rb,1,none⟩=some (.int .i64 0) ∧ W.cell? ⟨rb,2,none⟩=some (.int .i64 0) ∧ W.cell? ⟨rb,3,none⟩=some (.slice none 0 0) ∧ W.cell? ⟨rb,4,none⟩=some (.slice none 0 0):=h.R.cells5
theorem TM.smooth {w:World} {rb ob cx cy n m:Nat} {deep size:Int} {xs:List Nat} {ys:List Int} {smv mkv v':Value} {W W':World} (h:TM w rb ob cx cy deep size n m xs ys smv mkv W) {z:Nat} (hz:z < 4294967296) (hown:W'.ownsRow w.heap.size 42 1 v' (n + 1) (xs.map floV ++ [floV z])) (hg:W.grownBy W' smv.ownBlock) :
   TM w rb ob cx cy deep size (n + 1) m (xs ++ [z]) ys v' mkv (W'.setCell ⟨ob,3,none⟩ v') ∧ W'.cell? ⟨ob,3,none⟩=some smv ∧ W'.frozen? ⟨ob,3,none⟩=false:=by
 have hrow:∀ k,smv.ownBlock=some k → w.heap.size ≤ k:=fun k hk => (h.S.lt k hk).1
 have O:=h.O.grown hg (ownsRow_ne h.S h.O.blk (by decide)) hrow
 have R:=h.R.grown hg (ownsRow_ne h.S h.R.blk (by decide)) hrow
 have M:=h.M.kept hg (ownsRow_apart h.M h.S (by decide))
 refine ⟨⟨?_,R.other (p:=⟨ob,3,none⟩) h.ho h.ne _,?_,ownsRow_set M O.blk (by decide) _,?_,h.hy,h.ne,h.hr,h.ho⟩,O.cell 3 _ rfl,O.frozen 3⟩
 · have:=O.set h.ho 3 v'
   exact this
 · rw [List.map_append]
   exact ownsRow_set hown O.blk (by decide) _
 · intro x hx
   rcases List.mem_append.1 hx with hx | hx
   · exact h.hx x hx
   · rw [List.mem_singleton] at hx; rw [hx]; exact hz
theorem TM.mark {w:World} {rb ob cx cy n m:Nat} {deep size:Int} {xs:List Nat} {ys:List Int} {smv mkv v':Value} {W W':World} (h:TM w rb ob cx cy deep size n m xs ys smv mkv W) {z:Int} (hz:-1 ≤ z ∧ z ≤ 1) (hown:W'.ownsRow w.heap.size 3 1 v' (m + 1) (ys.map intV ++ [intV z])) (hg:W.grownBy W' mkv.ownBlock) :
   TM w rb ob cx cy deep size n (m + 1) xs (ys ++ [z]) smv v' (W'.setCell ⟨ob,4,none⟩ v') ∧ W'.cell? ⟨ob,4,none⟩=some mkv ∧ W'.frozen? ⟨ob,4,none⟩=false:=by
 have hrow:∀ k,mkv.ownBlock=some k → w.heap.size ≤ k:=fun k hk => (h.M.lt k hk).1
 have O:=h.O.grown hg (ownsRow_ne h.M h.O.blk (by decide)) hrow
 have R:=h.R.grown hg (ownsRow_ne h.M h.R.blk (by decide)) hrow
 have S:=h.S.kept hg (ownsRow_apart h.S h.M (by decide))
 refine ⟨⟨?_,R.other (p:=⟨ob,4,none⟩) h.ho h.ne _,ownsRow_set S O.blk (by decide) _,?_,h.hx,?_,h.ne,h.hr,h.ho⟩,O.cell 4 _ rfl,O.frozen 4⟩
 · have:=O.set h.ho 4 v'
   exact this
 · rw [List.map_append]
   exact ownsRow_set hown O.blk (by decide) _
 · intro y hy
   rcases List.mem_append.1 hy with hy | hy
   · exact h.hy y hy
   · rw [List.mem_singleton] at hy; rw [hy]; exact hz
theorem TM.start {w W:World} {rb:Nat} (cx cy:Nat) (deep size:Int) (R:Box w rb (tileC 0 0 0 0 (.slice none 0 0) (.slice none 0 0)) 29 W) (hr:w.heap.size ≤ rb) :
   TM w rb (W.heap.size + 1 + 1) cx cy deep size 0 0 [] [] (.slice (some ⟨W.heap.size,0,none⟩) 0 0) (.slice (some ⟨W.heap.size + 1,0,none⟩) 0 0) (((W.alloc (.cells #[] 42)).alloc (.cells #[] 3)).alloc (.cells (tileC cx cy deep size (.slice (some ⟨W.heap.size,0,none⟩) 0 0) (.slice (some ⟨W.heap.size + 1,0,none⟩) 0 0)) 29)):=by
 have hs:=R.old.size
 have hlt:=R.lt
 refine ⟨?_,((R.alloc _).alloc _).alloc _,?_,?_,(fun x hx => by cases hx),(fun x hx => by cases hx),by omega,hr,by omega⟩
 · have:=(Box.new ((W.alloc (.cells #[] 42)).alloc (.cells #[] 3)) (tileC cx cy deep size (.slice (some ⟨W.heap.size,0,none⟩) 0 0) (.slice (some ⟨W.heap.size + 1,0,none⟩) 0 0)) 29).up (w0:=w) ((R.alloc _).alloc _).old
   simpa only [World.size_alloc] using this
 · have:=World.ownsRow_lit (e:=42) (size:=1) (base:=w.heap.size) W #[] 0 hs (by decide) rfl
   exact (this.alloc _).alloc _
 · have:=World.ownsRow_lit (e:=3) (size:=1) (base:=w.heap.size) (W.alloc (.cells #[] 42)) #[] 0 (by simp; omega) (by decide) rfl
   rw [World.size_alloc] at this
   exact this.alloc _
structure Made (B n:Nat) (xs:List Nat) (ys:List Int) (smv mkv:Value) (W:World):Prop where
 S:W.ownsRow B 42 1 smv n (xs.map floV)
 M:W.ownsRow B 3 1 mkv n (ys.map intV)
 lx:xs.length=n
 ly:ys.length=n
 hx:∀ x,x ∈ xs → x < 4294967296
 hy:∀ y,y ∈ ys → -1 ≤ y ∧ y ≤ 1
theorem Made.set {B n:Nat} {xs:List Nat} {ys:List Int} {smv mkv:Value} {W:World} (h:Made B n xs ys smv mkv W) {b:Nat} {C:Array Value} (hb:W.heap[b]?=some (.cells C 29 (0,0))) (j:Nat) (u:Value):Made B n xs ys smv mkv (W.setCell ⟨b,j,none⟩ u) :=
 ⟨ownsRow_set h.S hb (by decide) u,ownsRow_set h.M hb (by decide) u,h.lx,h.ly,h.hx,h.hy⟩
theorem TM.made {w:World} {rb ob cx cy n:Nat} {deep size:Int} {s:Nat} {xs:List Nat} {ys:List Int} {smv mkv:Value} {W:World} (h:TM w rb ob cx cy deep size n n xs ys smv mkv W) (hn:n=s * s) (u0 u1 u2 u3 u4:Value) :
   Made w.heap.size ((s:Int).toNat * (s:Int).toNat) xs ys smv mkv (((((W.setCell ⟨rb,0,none⟩ u0).setCell ⟨rb,1,none⟩ u1).setCell ⟨rb,2,none⟩ u2).setCell ⟨rb,3,none⟩ u3).setCell ⟨rb,4,none⟩ u4):=by
 have lx:xs.length=n:=by have:=h.S.1; simpa using this
 have ly:ys.length=n:=by have:=h.M.1; simpa using this
 have m0:Made w.heap.size n xs ys smv mkv W:=⟨h.S,h.M,lx,ly,h.hx,h.hy⟩
 have b0:=h.R
 have b1:=b0.set h.hr 0 u0
 have b2:=b1.set h.hr 1 u1
 have b3:=b2.set h.hr 2 u2
 have b4:=b3.set h.hr 3 u3
 rw [Int.toNat_natCast,← hn]
 exact ((((m0.set b0.blk 0 u0).set b1.blk 1 u1).set b2.blk 2 u2).set b3.blk 3 u3).set b4.blk 4 u4
theorem Made.step {B n:Nat} {xs:List Nat} {ys:List Int} {smv mkv:Value} {W W':World} (h:Made B n xs ys smv mkv W) (k:Below W.heap.size W W'):Made B n xs ys smv mkv W' :=
 ⟨ownsRow_step h.S k,ownsRow_step h.M k,h.lx,h.ly,h.hx,h.hy⟩
def TileRet (w:World) (cx cy:Nat) (deep size:Int) (good:Prop) (e:Ending) (w':World):Prop :=
 Below w.heap.size w w' ∧ ((¬ good ∧ e=.returned (.tuple #[tileV 0 0 0 0 (.slice none 0 0) (.slice none 0 0),.bool false])) ∨
   (placeB cx cy deep size=true ∧ ∃ xs ys smv mkv,e=.returned (.tuple #[tileV cx cy deep size smv mkv,.bool true]) ∧ Made w.heap.size (size.toNat * size.toNat) xs ys smv mkv w'))
theorem set5 {w W:World} (h:Below w.heap.size w W) {b:Nat} (hb:w.heap.size ≤ b) (u0 u1 u2 u3 u4:Value) :
   Below w.heap.size w (((((W.setCell ⟨b,0,none⟩ u0).setCell ⟨b,1,none⟩ u1).setCell ⟨b,2,none⟩ u2).setCell ⟨b,3,none⟩ u3).setCell ⟨b,4,none⟩ u4) :=
 ((((h.setCell (p:=⟨b,0,none⟩) hb _).setCell (p:=⟨b,1,none⟩) hb _).setCell (p:=⟨b,2,none⟩) hb _).setCell (p:=⟨b,3,none⟩) hb _).setCell (p:=⟨b,4,none⟩) hb _
theorem TileRet.no {w:World} {cx cy:Nat} {deep size:Int} {good:Prop} {w':World} (hb:Below w.heap.size w w') (hg:¬ good):TileRet w cx cy deep size good (.returned (.tuple #[.agg #[.complex .f32 0 0,.int .i64 0,.int .i64 0,.slice none 0 0,.slice none 0 0],.bool false])) w' :=
 ⟨hb,.inl ⟨hg,rfl⟩⟩
theorem TileRet.yes {w:World} {cx cy:Nat} {deep size:Int} {good:Prop} {w':World} {xs:List Nat} {ys:List Int} {smv mkv:Value} (hb:Below w.heap.size w w') (hp:placeB cx cy deep size=true) (hm:Made w.heap.size (size.toNat * size.toNat) xs ys smv mkv w') :
   TileRet w cx cy deep size good (.returned (.tuple #[.agg #[.complex .f32 cx cy,.int .i64 deep,.int .i64 size,smv,mkv],.bool true])) w' :=
 ⟨hb,.inr ⟨hp,xs,ys,smv,mkv,rfl,hm⟩⟩
end Go.Proofs.YthhfljldbfgpcaaGreatDoor
end

section
namespace Go.Proofs.YthhfljldbfgpcaaGreatDoor
open Go.RowKit
structure TRows (B n m:Nat) (xs:List Nat) (ys:List Int) (smv mkv:Value) (W:World):Prop where
 S:W.ownsRow B 42 1 smv n (xs.map floV)
 M:W.ownsRow B 3 1 mkv m (ys.map intV)
 hx:∀ x,x ∈ xs → x < 4294967296
 hy:∀ y,y ∈ ys → -1 ≤ y ∧ y ≤ 2
theorem TRows.lx {B n m:Nat} {xs:List Nat} {ys:List Int} {smv mkv:Value} {W:World} (h:TRows B n m xs ys smv mkv W):xs.length=n:=by have:=h.S.1; simpa using this
theorem TRows.ly {B n m:Nat} {xs:List Nat} {ys:List Int} {smv mkv:Value} {W:World} (h:TRows B n m xs ys smv mkv W):ys.length=m:=by have:=h.M.1; simpa using this
theorem Made.rows {B n:Nat} {xs:List Nat} {ys:List Int} {smv mkv:Value} {W:World} (h:Made B n xs ys smv mkv W):TRows B n n xs ys smv mkv W :=
 ⟨h.S,h.M,h.hx,fun y hy => by have:=h.hy y hy; omega⟩
theorem ownsRow_form {w:World} {base:Nat} {e:TypeId} {size:Nat} {v:Value} {n:Nat} {xs:List Value} (h:w.ownsRow base e size v n xs) (hn:0 < n):∃ g cap,v=.slice (some ⟨g,0,none⟩) n cap ∧ base ≤ g ∧ n ≤ cap:=by
 rcases h.2 with ⟨_,h0⟩ | ⟨g,cap,cur,rfl,hg,_,hc,_⟩
 · omega
 · exact ⟨g,cap,rfl,hg,hc⟩
theorem TRows.step {B n m:Nat} {xs:List Nat} {ys:List Int} {smv mkv:Value} {W W':World} (h:TRows B n m xs ys smv mkv W) (k:Below W.heap.size W W'):TRows B n m xs ys smv mkv W' :=
 ⟨ownsRow_step h.S k,ownsRow_step h.M k,h.hx,h.hy⟩
structure TileIn (B:Nat) (W:World) (v:Value) (cx cy:Nat) (deep size:Int) (xs:List Nat) (ys:List Int):Prop where
 form:∃ a c a' c',v=.agg #[.complex .f32 cx cy,.int .i64 deep,.int .i64 size,.slice a xs.length c,.slice a' ys.length c'] ∧ Sl W a (xs.map floV) ∧ Sl W a' (ys.map intV) ∧ xs.length ≤ c ∧ ys.length ≤ c' ∧ (∀ g o s,a=some ⟨g,o,s⟩ → B ≤ g) ∧ (∀ g o s,a'=some ⟨g,o,s⟩ → B ≤ g)
 hx:∀ x,x ∈ xs → x < 4294967296
 hy:∀ y,y ∈ ys → -1 ≤ y ∧ y ≤ 2
theorem TileIn.step {B:Nat} {W W':World} {v:Value} {cx cy:Nat} {deep size:Int} {xs:List Nat} {ys:List Int} (h:TileIn B W v cx cy deep size xs ys) (k:Below W.heap.size W W'):TileIn B W' v cx cy deep size xs ys:=by
 obtain ⟨⟨a,c,a',c',rfl,h1,h2,h3⟩,hx,hy⟩:=h
 exact ⟨⟨a,c,a',c',rfl,h1.step k,h2.step k,h3⟩,hx,hy⟩
theorem sl_of_own {w:World} {base:Nat} {e:TypeId} {g cap n:Nat} {xs:List Value} (h:w.ownsRow base e 1 (.slice (some ⟨g,0,none⟩) n cap) n xs):Sl w (some ⟨g,0,none⟩) xs:=by
 refine .inr ⟨g,0,rfl,fun i v hv => ?_⟩
 have hl:i < xs.length:=(List.getElem?_eq_some_iff.1 hv).1
 rw [Nat.zero_add,h.cellAt i (by have:=h.1; omega)]
 exact hv
theorem sl_tail {w:World} {g:Nat} {x:Value} {xs:List Value} (h:Sl w (some ⟨g,0,none⟩) (x :: xs)):Sl w (some ⟨g,1,none⟩) xs:=by
 rcases h with h | ⟨b,o,hb,h⟩
 · cases h
 · injection hb with hb
   injection hb with h1 h2 _
   subst h1 h2
   refine .inr ⟨g,1,rfl,fun i v hv => ?_⟩
   have:=h (i + 1) v (by simpa using hv)
   rw [Nat.zero_add] at this
   rw [Nat.add_comm 1 i]
   exact this
def TileOut (B:Nat) (e:Ending) (w':World):Prop :=
 ∃ v cx cy deep size xs ys,e=.returned v ∧ TileIn B w' v cx cy deep size xs ys ∧ cx < 4294967296 ∧ cy < 4294967296 ∧ placeB cx cy deep size=true ∧ ys.length=size.toNat * size.toNat ∧ (xs.length=ys.length ∨ xs.length + 1=ys.length)
theorem own_ge {w:World} {base:Nat} {e:TypeId} {g cap n m size:Nat} {xs:List Value} (h:w.ownsRow base e size (.slice (some ⟨g,0,none⟩) m cap) n xs):base ≤ g:=by
 rcases h.2 with ⟨h,_⟩ | ⟨g',cap',cur,hv,hg,_⟩
 · cases h
 · injection hv with h1 h2 h3
   injection h1 with h1
   injection h1 with h1
   rw [h1]; exact hg
theorem TileOut.rows {B n gs cs gm cm cx cy:Nat} {deep size:Int} {xs:List Nat} {ys:List Int} {W:World} (h:TRows B n n xs ys (.slice (some ⟨gs,0,none⟩) n cs) (.slice (some ⟨gm,0,none⟩) n cm) W) (hx:cx < 4294967296) (hy:cy < 4294967296) (hp:placeB cx cy deep size=true) (hn:n=size.toNat * size.toNat) (h1:n ≤ cs) (h2:n ≤ cm) :
   TileOut B (.returned (.agg #[.complex .f32 cx cy,.int .i64 deep,.int .i64 size,.slice (some ⟨gs,0,none⟩) n cs,.slice (some ⟨gm,0,none⟩) n cm])) W:=by
 have lx:=h.lx
 have ly:=h.ly
 refine ⟨_,cx,cy,deep,size,xs,ys,rfl,⟨⟨_,cs,_,cm,by rw [lx,ly],sl_of_own h.S,sl_of_own h.M,by omega,by omega,fun g o s e => ?_,fun g o s e => ?_⟩,h.hx,h.hy⟩,hx,hy,hp,by omega,.inl (by omega)⟩
 · injection e with e; injection e with e; rw [← e]; exact own_ge h.S
 · injection e with e; injection e with e; rw [← e]; exact own_ge h.M
theorem TileOut.tail {B n gs cs gm cm cx cy:Nat} {deep size:Int} {xs:List Nat} {ys:List Int} {W:World} {a:Option Addr} {c l:Nat} (h:TRows B n n xs ys (.slice (some ⟨gs,0,none⟩) n cs) (.slice (some ⟨gm,0,none⟩) n cm) W) (hx:cx < 4294967296) (hy:cy < 4294967296) (hp:placeB cx cy deep size=true) (hn:n=size.toNat * size.toNat) (h1:n ≤ cs) (h2:n ≤ cm)
   (hl:l + 1=n) (hc:c + 1=cs) (ha:(l=0 ∧ a=some ⟨gs,0,none⟩) ∨ a=some ⟨gs,1,none⟩) :
   TileOut B (.returned (.agg #[.complex .f32 cx cy,.int .i64 deep,.int .i64 size,.slice a l c,.slice (some ⟨gm,0,none⟩) n cm])) W:=by
 have lx:=h.lx
 have ly:=h.ly
 cases xs with
 | nil => simp at lx; omega
 | cons x xs =>
   have hl2:xs.length=l:=by simp at lx; omega
   refine ⟨_,cx,cy,deep,size,xs,ys,rfl,⟨⟨_,c,_,cm,by rw [hl2,ly],?_,sl_of_own h.M,by omega,by omega,fun g o s e => ?_,fun g o s e => ?_⟩,fun x hx => h.hx x (List.mem_cons_of_mem _ hx),h.hy⟩,hx,hy,hp,by omega,.inr (by omega)⟩
   rotate_left
   · rcases ha with ⟨_,rfl⟩ | rfl
     · injection e with e; injection e with e; rw [← e]; exact own_ge h.S
     · injection e with e; injection e with e; rw [← e]; exact own_ge h.S
   · injection e with e; injection e with e; rw [← e]; exact own_ge h.M
   rcases ha with ⟨h0,_⟩ | rfl
   · left
     have:xs=[]:=List.eq_nil_of_length_eq_zero (by omega)
     rw [this]; rfl
   · exact sl_tail (sl_of_own h.S)
end Go.Proofs.YthhfljldbfgpcaaGreatDoor
end

section
namespace Go.Proofs.YthhfljldbfgpcaaGreatDoor
open Go.RowKit
attribute [local go_sem ↓] Go.wp_at_zero Go.wp_at_succ
set_option maxHeartbeats 400000 in
theorem l7Point_is (cx cy d:Nat) (i j:Int) (hd:d ≤ 11) {p q x y:Nat} (h1:floatBits .mul .f32 (floatOfInt .f32 j) (Flo.sideF d)=some p) (h2:floatBits .mul .f32 (floatOfInt .f32 i) (Flo.sideF d)=some q)
   (h3:floatBits .add .f32 cx p=some x) (h4:floatBits .add .f32 cy q=some y) (w:World) :
   Calls Vp.prog 26 #[.complex .f32 cx cy,.int .i64 d,.int .i64 i,.int .i64 j] w fun e w' => e=.returned (.complex .f32 x y) ∧ w=w':=by
 have g1:=fun w => run_float_arith (P:=Vp.prog) w .mul 42 .f32 _ _ _ h1
 have g2:=fun w => run_float_arith (P:=Vp.prog) w .mul 42 .f32 _ _ _ h2
 have g3:=fun w => run_complex_sum (P:=Vp.prog) w .add (.inl rfl) 23 .f32 cx cy p q x y (by unfold cSumBits; rw [h3,h4]; rfl)
 have HS:=Lib.hid (fun w => l7Side_is d hd w)
 clear h1 h2 h3 h4
 generalize Flo.sideF d=r at *
 go_enter Vp.func26,Tryz.ntmps26
 go_wp2_with (go_at_call 60; refine (HS.out _).mono ?_; rintro e w' ⟨rfl,rfl⟩)
 go_ret
 exact ⟨rfl,rfl⟩
set_option maxHeartbeats 400000 in
theorem pointOf_is (cx cy d:Nat) (i j:Int) (hd:d ≤ 11) {p q x y:Nat} (h1:floatBits .mul .f32 (floatOfInt .f32 j) (Flo.sideF d)=some p) (h2:floatBits .mul .f32 (floatOfInt .f32 i) (Flo.sideF d)=some q)
   (h3:floatBits .add .f32 cx p=some x) (h4:floatBits .add .f32 cy q=some y) (w:World) :
   Calls Vp.prog 20 #[.complex .f32 cx cy,.int .i64 d,.int .i64 i,.int .i64 j] w fun e w' => e=.returned (.complex .f32 x y) ∧ w=w':=by
 have g1:=fun w => run_float_arith (P:=Vp.prog) w .mul 42 .f32 _ _ _ h1
 have g2:=fun w => run_float_arith (P:=Vp.prog) w .mul 42 .f32 _ _ _ h2
 have g3:=fun w => run_complex_sum (P:=Vp.prog) w .add (.inl rfl) 23 .f32 cx cy p q x y (by unfold cSumBits; rw [h3,h4]; rfl)
 have HS:=Lib.hid (fun w => sideOf_is d hd w)
 clear h1 h2 h3 h4
 generalize Flo.sideF d=r at *
 go_enter Vp.func20,Tryz.ntmps20
 go_wp2_with (go_at_call 49; refine (HS.out _).mono ?_; rintro e w' ⟨rfl,rfl⟩)
 go_ret
 exact ⟨rfl,rfl⟩
set_option maxRecDepth 100000 in
set_option maxHeartbeats 1000000 in
theorem l4Steps_val (x d:Nat) (n N:Int) (hd:d ≤ 11) (hx:Flo.Pt x d n) (hn:n.natAbs ≤ 65536) (hN:N=n * (2 ^ (24 - d):Nat)) (h1:-134217728 ≤ N) (h2:N ≤ 134217728) (w:World) :
   Calls Vp.prog 78 #[.float .f32 x] w fun e w' => e=.returned (.tuple #[.int .i64 N,.int .i64 N,.bool true]) ∧ w=w':=by
 obtain ⟨y1,y,e1,e2,hv,e3⟩:=Flo.steps_pt hd hx hn
 rw [← hN] at hv e3
 obtain ⟨b1,b2,b3,b4⟩:=Flo.steps_tests (by omega) hv
 rw [decide_eq_true h1] at b1
 rw [decide_eq_true h2] at b2
 have g1:=fun w => run_convert_float_float (P:=Vp.prog) w 42 68 .f32 .f64 _ _ (by kernel_rfl) (Vp.und Tryz.underlying68) e1
 have g2:=fun w => run_float_arith (P:=Vp.prog) w .mul 68 .f64 _ _ _ e2
 have g3:=fun w => run_convert_float_int (P:=Vp.prog) w 68 3 .f64 .i64 _ _ (by kernel_rfl) (Vp.und Tryz.underlying3) e3
 clear e1 e2 e3 hv hx hn hN h1 h2 hd
 go_enter Vp.func78,Tryz.ntmps78
 go_wp2
 go_ret3
 exact ⟨rfl,rfl⟩
set_option maxHeartbeats 1000000 in
theorem l4Done_val (a b c d:Int) (hv:boxOK a b c d=true) (w:World):Calls Vp.prog 79 #[.agg #[.int .i64 a,.int .i64 b,.int .i64 c,.int .i64 d]] w fun e w' => e=.returned (.tuple #[.agg #[.int .i64 a,.int .i64 b,.int .i64 c,.int .i64 d],.bool true]) ∧ Below w.heap.size w w':=by
 have X0:Box w w.heap.size #[.int .i64 a,.int .i64 b,.int .i64 c,.int .i64 d] 62 ((w.alloc (.cells #[.int .i64 a,.int .i64 b,.int .i64 c,.int .i64 d] 62)).alloc (.cells #[.int .i64 0,.int .i64 0,.int .i64 0,.int .i64 0] 62)):=(Box.new w _ _).alloc _
 have X1:Box w (w.heap.size + 1) #[.int .i64 0,.int .i64 0,.int .i64 0,.int .i64 0] 62 ((w.alloc (.cells #[.int .i64 a,.int .i64 b,.int .i64 c,.int .i64 d] 62)).alloc (.cells #[.int .i64 0,.int .i64 0,.int .i64 0,.int .i64 0] 62)):=by
   have:=(Box.new (w.alloc (.cells #[.int .i64 a,.int .i64 b,.int .i64 c,.int .i64 d] 62)) #[.int .i64 0,.int .i64 0,.int .i64 0,.int .i64 0] 62).up (w0:=w) ((Below.refl _ _).alloc (Nat.le_refl _) _)
   rwa [World.size_alloc] at this
 have HF:Hid (∀ W,Below w.heap.size w W → ∀ u0 u1 u2 u3,Below w.heap.size w ((((W.setCell ⟨w.heap.size + 1,0,none⟩ u0).setCell ⟨w.heap.size + 1,1,none⟩ u1).setCell ⟨w.heap.size + 1,2,none⟩ u2).setCell ⟨w.heap.size + 1,3,none⟩ u3)):=fun W h u0 u1 u2 u3 =>
   (((h.setCell (p:=⟨w.heap.size + 1,0,none⟩) (by simp) _).setCell (p:=⟨w.heap.size + 1,1,none⟩) (by simp) _).setCell (p:=⟨w.heap.size + 1,2,none⟩) (by simp) _).setCell (p:=⟨w.heap.size + 1,3,none⟩) (by simp) _
 go_enter Vp.func79,Tryz.ntmps79
 go_wp2_with fail
 refine (boxValid_any a b c d _).mono ?_
 rw [hv]
 rintro e w1 ⟨rfl,hb⟩
 replace X0:=X0.step hb
 replace X1:=X1.step hb
 clear hb
 have x0:=X0.cell 0 _ rfl
 have x1:=X0.cell 1 _ rfl
 have x2:=X0.cell 2 _ rfl
 have x3:=X0.cell 3 _ rfl
 have c0:=X1.cell 0 _ rfl
 have c1:=X1.cell 1 _ rfl
 have c2:=X1.cell 2 _ rfl
 have c3:=X1.cell 3 _ rfl
 have f0:=X1.frozen 0
 have f1:=X1.frozen 1
 have f2:=X1.frozen 2
 have f3:=X1.frozen 3
 have HB:=Lib.hid X1.old
 clear X0 X1
 go_wp2
 exact bodyPost_ret (v:=.tuple #[.agg #[.int .i64 a,.int .i64 b,.int .i64 c,.int .i64 d],.bool true]) (by simp [results,Tryz.f79,go_sem,c0,c1,c2,c3]) rfl ⟨rfl,HF.out _ HB.out _ _ _ _⟩
set_option maxHeartbeats 1000000 in
theorem boxOf_val (x y d:Nat) (a b A B:Int) (hd:d ≤ 11) (hx:Flo.Pt x d a) (hy:Flo.Pt y d b) (ha:a.natAbs ≤ 65536) (hb:b.natAbs ≤ 65536) (hA:A=a * (2 ^ (24 - d):Nat)) (hB:B=b * (2 ^ (24 - d):Nat))
   (h1:-134217728 ≤ A) (h2:A ≤ 134217728) (h3:-134217728 ≤ B) (h4:B ≤ 134217728) (w:World) :
   Calls Vp.prog 53 #[.complex .f32 x y] w fun e w' => e=.returned (.tuple #[.agg #[.int .i64 A,.int .i64 A,.int .i64 B,.int .i64 B],.bool true]) ∧ Below w.heap.size w w':=by
 have X:=Box.new w #[.int .i64 0,.int .i64 0,.int .i64 0,.int .i64 0] 62
 have HF:Hid (∀ W,Below w.heap.size w W → ∀ u0 u1 u2 u3,Below w.heap.size w ((((W.setCell ⟨w.heap.size,0,none⟩ u0).setCell ⟨w.heap.size,1,none⟩ u1).setCell ⟨w.heap.size,2,none⟩ u2).setCell ⟨w.heap.size,3,none⟩ u3)):=fun W h u0 u1 u2 u3 =>
   (((h.setCell (p:=⟨w.heap.size,0,none⟩) (Nat.le_refl _) _).setCell (p:=⟨w.heap.size,1,none⟩) (Nat.le_refl _) _).setCell (p:=⟨w.heap.size,2,none⟩) (Nat.le_refl _) _).setCell (p:=⟨w.heap.size,3,none⟩) (Nat.le_refl _) _
 have HX:=Lib.hid (fun w => l4Steps_val x d a A hd hx ha hA h1 h2 w)
 have HY:=Lib.hid (fun w => l4Steps_val y d b B hd hy hb hB h3 h4 w)
 have HV:Hid (boxOK A A B B=true):=by
   show boxOK A A B B=true
   unfold boxOK inB
   simp only [Bool.and_eq_true,decide_eq_true_eq]
   omega
 clear hx hy hA hB ha hb
 go_enter Vp.func53,Tryz.ntmps53
 go_wp2_with fail
 refine (HX.out _).mono ?_
 rintro e w1 ⟨rfl,rfl⟩
 go_wp2_with fail
 refine (HY.out _).mono ?_
 rintro e w1 ⟨rfl,rfl⟩
 go_wp2_with fail
 refine (l4Done_val A A B B HV.out _).mono ?_
 rintro e w3 ⟨rfl,hb⟩
 replace X:=X.step hb
 clear hb
 have c0:=X.cell 0 _ rfl
 have c1:=X.cell 1 _ rfl
 have c2:=X.cell 2 _ rfl
 have c3:=X.cell 3 _ rfl
 have f0:=X.frozen 0
 have f1:=X.frozen 1
 have f2:=X.frozen 2
 have f3:=X.frozen 3
 have HB:=Lib.hid X.old
 clear X
 go_wp2
 exact bodyPost_ret (v:=.tuple #[.agg #[.int .i64 A,.int .i64 A,.int .i64 B,.int .i64 B],.bool true]) (by simp [results,Tryz.f53,go_sem,c0,c1,c2,c3]) rfl ⟨rfl,HF.out _ HB.out _ _ _ _⟩
theorem side_steps (d:Nat) (hd:d ≤ 11):(16777216:Int) / 2 ^ d=(2 ^ (24 - d):Nat):=by
 rcases (by omega:d=0 ∨ d=1 ∨ d=2 ∨ d=3 ∨ d=4 ∨ d=5 ∨ d=6 ∨ d=7 ∨ d=8 ∨ d=9 ∨ d=10 ∨ d=11) with rfl | rfl | rfl | rfl | rfl | rfl | rfl | rfl | rfl | rfl | rfl | rfl <;> rfl
end Go.Proofs.YthhfljldbfgpcaaGreatDoor
end

section
namespace Go.Proofs.YthhfljldbfgpcaaGreatDoor
open Go.RowKit
def markB (y:Int):Bool:=inB y (-1) 1
def wellB (size:Int) (n:Nat) (ys:List Int):Bool:=decide ((n:Int)=size * size) && decide (ys.length=n) && ys.all markB
theorem wellB_len {size:Int} {n:Nat} {ys:List Int} (h:¬ (n:Int)=size * size):wellB size n ys=false:=by unfold wellB; rw [decide_eq_false h]; rfl
theorem wellB_len2 {size:Int} {n:Nat} {ys:List Int} (h:¬ ys.length=n):wellB size n ys=false:=by unfold wellB; rw [decide_eq_false h]; simp
theorem wellB_bad {size:Int} {n k:Nat} {ys:List Int} (hk:k < ys.length) (h:markB ys[k]=false):wellB size n ys=false:=by
 unfold wellB
 have:ys.all markB=false:=by
   rw [List.all_eq_false]
   exact ⟨_,List.getElem_mem hk,by rw [h]; decide⟩
 rw [this,Bool.and_false]
theorem wellB_ok {size:Int} {n:Nat} {ys:List Int} (h1:(n:Int)=size * size) (h2:ys.length=n) (h:∀ j (hj:j < ys.length),markB ys[j]=true):wellB size n ys=true:=by
 unfold wellB
 rw [decide_eq_true h1,decide_eq_true h2,Bool.true_and,Bool.true_and,List.all_eq_true]
 intro y hy
 obtain ⟨j,hj,rfl⟩:=List.getElem_of_mem hy
 exact h j hj
set_option maxRecDepth 100000 in
set_option maxHeartbeats 1000000 in
theorem implWell_is (cx cy:Nat) (deep size:Int) (hx:cx < 4294967296) (hy:cy < 4294967296) (hp:placeB cx cy deep size=true) (a a':Option Addr) (n c c':Nat) (ys:List Int) (hl:ys.length ≤ 1048576) (w:World) (hs:Sl w a' (ys.map intV)) :
   Calls Vp.prog 16 #[.agg #[.complex .f32 cx cy,.int .i64 deep,.int .i64 size,.slice a n c,.slice a' ys.length c']] w fun e w' => e=.returned (.bool (wellB size n ys)) ∧ Below w.heap.size w w':=by
 obtain ⟨h1,h2,h3,h4⟩:=placeB_bd hp
 have hP:=placeWell_ok cx cy deep size hx hy
 replace hP:=hP hp
 have HP:=Lib.hid hP
 have B:=Box.new w #[.complex .f32 cx cy,.int .i64 deep,.int .i64 size,.slice a n c,.slice a' ys.length c'] 29
 have HS:=Lib.hid (hs.alloc (.cells #[.complex .f32 cx cy,.int .i64 deep,.int .i64 size,.slice a n c,.slice a' ys.length c'] 29))
 obtain ⟨m,hm⟩:∃ m,ys.length=m:=⟨_,rfl⟩
 obtain ⟨q,hq⟩:∃ q,size * size=q:=⟨_,rfl⟩
 have hqw:wrap64 (size * size)=q:=by
   have h5:size=1 ∨ size=2 ∨ size=3 ∨ size=4 ∨ size=5 ∨ size=6 ∨ size=7 ∨ size=8:=by omega
   have h6:0 ≤ q ∧ q ≤ 64:=by
     rcases h5 with rfl | rfl | rfl | rfl | rfl | rfl | rfl | rfl <;> omega
   rw [hq]; unfold wrap64; omega
 have HW1:Hid (¬ (n:Int)=q → wellB size n ys=false):=fun h => wellB_len (by rw [hq]; exact h)
 have HW2:Hid (¬ m=n → wellB size n ys=false):=fun h => wellB_len2 (by rw [hm]; exact h)
 have HW3:Hid (∀ k (h:k < m),markB (ys[k]'(by rw [hm]; exact h))=false → wellB size n ys=false):=fun k h => wellB_bad (by rw [hm]; exact h)
 have HW4:Hid ((n:Int)=q → m=n → (∀ k (h:k < m),markB (ys[k]'(by rw [hm]; exact h))=true) → wellB size n ys=true):=fun h1 h2 h3 => wellB_ok (by rw [hq]; exact h1) (by rw [hm]; exact h2) (fun j hj => h3 j (by rw [← hm]; exact hj))
 have HY:Hid (∀ k (h:k < m),(ys.map intV)[k]?=some (.int .i64 (ys[k]'(by rw [hm]; exact h)))):=fun k h => by rw [List.getElem?_map,List.getElem?_eq_getElem (by rw [hm]; exact h)]; rfl
 rw [hm] at B HS hl ⊢
 have HM:=Lib.hid hm
 clear hP hp hs hq h1 h2 h3 h4
 generalize wellB size n ys=R at *
 go_enter Vp.func16,Tryz.ntmps16
 go_wp2_with fail
 refine (HP.out _).mono ?_
 rintro e w1 ⟨rfl,rfl⟩
 clear HP
 have b2:=B.cell 2 _ rfl
 have b3:=B.cell 3 _ rfl
 have b4:=B.cell 4 _ rfl
 have HB:=Lib.hid B.old
 clear B
 by_cases c1:(n:Int)=q
 · have t1:((n:Int) != q)=false:=by simpa using c1
   by_cases c2:m=n
   · have t2:((m:Int) != q)=false:=by simp; omega
     have HR:=Lib.hid (HW4.out c1 c2)
     clear c1 c2 HW1 HW2 HW4
     go_wp2
     simp only [hqw]
     clear hqw
     go_loop [2,5,34] (fun _ _ i => ∃ k:Nat,k ≤ m ∧ i=.int .i64 k ∧ Hid (∀ j (h:j < m),j < k → markB (ys[j]'(by rw [HM.out]; exact h))=true)) (fun _ _ i => (m - intOf i).toNat)
     case atStart => exact ⟨0,by omega,rfl,fun j _ hj => by omega⟩
     case round =>
       obtain ⟨k,hk,rfl,HD⟩:=hrel
       by_cases hlt:k < m
       · have hx:=HY.out k hlt
         obtain ⟨b,off,rfl,hc⟩:=HS.out.at hx
         have HD2:Hid (markB (ys[k]'(by rw [HM.out]; exact hlt))=true → ∀ j (h:j < m),j < k + 1 → markB (ys[j]'(by rw [HM.out]; exact h))=true):=fun hyes j h hj => by
           by_cases e:j=k
           · subst e; exact hyes
           · exact HD.out j h (by omega)
         have HN:=Lib.hid (HW3.out k hlt)
         clear hx
         generalize ys[k]'(by rw [HM.out]; exact hlt)=y at *
         by_cases y1:y < -1
         · have hok:markB y=false:=by unfold markB inB; simp; omega
           have HK:=Lib.hid hok
           clear hok
           go_wp2
           go_ret
           exact ⟨ret_bool (HN.out HK.out).symm,HB.out⟩
         · by_cases y2:1 < y
           · have hok:markB y=false:=by unfold markB inB; simp; omega
             have HK:=Lib.hid hok
             clear hok
             go_wp2
             go_ret
             exact ⟨ret_bool (HN.out HK.out).symm,HB.out⟩
           · have hok:markB y=true:=by unfold markB inB; simp; omega
             have HK:=Lib.hid hok
             clear hok
             go_wp2
             go_round
             case rel => exact ⟨k + 1,by omega,by go_num,HD2.out HK.out⟩
             case measure => simp [intOf]; omega
       · go_wp2
         go_ret
         exact ⟨ret_bool (HR.out (fun j h => HD.out j h (by omega))).symm,HB.out⟩
   · have t2:((m:Int) != q)=true:=by simp; omega
     have HR:=Lib.hid (HW2.out c2)
     clear c1 c2
     go_wp2
     go_ret
     exact ⟨ret_bool HR.out.symm,HB.out⟩
 · have t1:((n:Int) != q)=true:=by simpa using c1
   have HR:=Lib.hid (HW1.out c1)
   clear c1
   go_wp2
   go_ret
   exact ⟨ret_bool HR.out.symm,HB.out⟩
end Go.Proofs.YthhfljldbfgpcaaGreatDoor
end

section
namespace Go.Proofs.YthhfljldbfgpcaaGreatDoor
open Go.RowKit Flo
def ptF (c d:Nat) (j:Int):Nat:=(floatBits .add .f32 c ((floatBits .mul .f32 (floatOfInt .f32 j) (sideF d)).getD 0)).getD 0
theorem ptF_is {c d:Nat} {A:Int} (hd:d ≤ 11) (hc:Pt c d A) (hA:A.natAbs ≤ 65536) (j:Int) (hj:j.natAbs ≤ 65536) :
   ∃ p,floatBits .mul .f32 (floatOfInt .f32 j) (sideF d)=some p ∧ floatBits .add .f32 c p=some (ptF c d j) ∧ Pt (ptF c d j) d (A + j):=by
 obtain ⟨p,x,h1,h2,h3⟩:=point_pt hd hc hA j hj
 have e:ptF c d j=x:=by unfold ptF; rw [h1]; simp only [Option.getD_some]; rw [h2]; rfl
 rw [e]
 exact ⟨p,h1,h2,h3⟩
theorem place_pts {cx cy:Nat} {deep size:Int} (hx:cx < 4294967296) (hy:cy < 4294967296) (hp:placeB cx cy deep size=true):∃ (d:Nat) (A B:Int),deep=d ∧ d ≤ 10 ∧ Pt cx d A ∧ Pt cy d B ∧ A.natAbs ≤ 4 * 2 ^ d ∧ B.natAbs ≤ 4 * 2 ^ d ∧ A.natAbs ≤ 4096 ∧ B.natAbs ≤ 4096:=by
 obtain ⟨h1,h2,h3,h4⟩:=placeB_bd hp
 obtain ⟨d,rfl⟩:=Int.eq_ofNat_of_zero_le h1
 unfold placeB at hp
 rw [Bool.and_eq_true,Bool.and_eq_true,Int.toNat_natCast] at hp
 obtain ⟨A,hA,ha⟩:=whole_pt hx (by omega) hp.1.2
 obtain ⟨B,hB,hb⟩:=whole_pt hy (by omega) hp.2
 have hdp:2 ^ d ≤ 2 ^ 10:=Nat.pow_le_pow_right (by omega) (by omega)
 exact ⟨d,A,B,rfl,by omega,hA,hB,ha,hb,by omega,by omega⟩
def ptC (cx cy:Nat) (deep:Int) (i j:Int):Nat × Nat:=(ptF cx deep.toNat j,ptF cy deep.toNat i)
theorem implPoint_is (cx cy:Nat) (deep size:Int) (hx:cx < 4294967296) (hy:cy < 4294967296) (hp:placeB cx cy deep size=true) (i j:Int) (hi:i.natAbs ≤ 5000) (hj:j.natAbs ≤ 5000) (w:World) :
   Calls Vp.prog 20 #[.complex .f32 cx cy,.int .i64 deep,.int .i64 i,.int .i64 j] w fun e w' => e=.returned (.complex .f32 (ptC cx cy deep i j).1 (ptC cx cy deep i j).2) ∧ w=w':=by
 obtain ⟨d,A,B,rfl,hd,hA,hB,_,_,ha,hb⟩:=place_pts hx hy hp
 obtain ⟨p,e1,e2,h1⟩:=ptF_is (by omega) hA (by omega) j (by omega)
 obtain ⟨q,e3,e4,h2⟩:=ptF_is (by omega) hB (by omega) i (by omega)
 unfold ptC
 rw [Int.toNat_natCast]
 exact pointOf_is cx cy d i j (by omega) e1 e3 e2 e4 w
end Go.Proofs.YthhfljldbfgpcaaGreatDoor
end
