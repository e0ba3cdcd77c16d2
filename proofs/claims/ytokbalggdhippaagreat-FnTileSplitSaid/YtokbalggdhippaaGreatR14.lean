/- Merged texts: TilR, TilG, PtW, Hw. -/
import Derived.Test.YtokbalggdhippaaGreatR4
import Derived.Test.YtokbalggdhippaaGreatR5
import Derived.Calls
set_option linter.all false
section
namespace Go.Proofs.YtokbalggdhippaaGreat
open Go.RowKit
structure TRows (B n m:Nat) (xs:List Nat) (ys:List Int) (smv mkv:Value) (W:World):Prop where
 S:W.ownsRow B 63 1 smv n (xs.map floV)
 M:W.ownsRow B 3 1 mkv m (ys.map intV)
 hx:∀ x,x ∈ xs → x < 4294967296
 hy:∀ y,y ∈ ys → -1 ≤ y ∧ y ≤ 2
theorem TRows.lx {B n m:Nat} {xs:List Nat} {ys:List Int} {smv mkv:Value} {W:World} (h:TRows B n m xs ys smv mkv W):xs.length=n:=by have:=h.S.1; simpa using this
theorem TRows.ly {B n m:Nat} {xs:List Nat} {ys:List Int} {smv mkv:Value} {W:World} (h:TRows B n m xs ys smv mkv W):ys.length=m:=by have:=h.M.1; simpa using this
theorem Made.rows {B n:Nat} {xs:List Nat} {ys:List Int} {smv mkv:Value} {W:World} (h:Made B n xs ys smv mkv W):TRows B n n xs ys smv mkv W :=
 ⟨h.S,h.M,h.hx,fun y hy => by have:=h.hy y hy; omega⟩
theorem ownsRow_form {w:World} {base:Nat} {e:TypeId} {size:Nat} {v:Value} {n:Nat} {xs:List Value} (h:w.ownsRow base e size v n xs) (hn:0 < n):∃ g cap,v=.slice (some ⟨g,0,none⟩) n cap ∧ base ≤ g ∧ n ≤ cap:=by
 rcases h.2 with ⟨_,h0⟩ | ⟨g,cap,cur,rfl,hg,_,hc,_⟩
 · omega
 · exact ⟨g,cap,rfl,hg,hc⟩
theorem TRows.step {B n m:Nat} {xs:List Nat} {ys:List Int} {smv mkv:Value} {W W':World} (h:TRows B n m xs ys smv mkv W) (k:Below W.heap.size W W'):TRows B n m xs ys smv mkv W' :=
 ⟨ownsRow_step h.S k,ownsRow_step h.M k,h.hx,h.hy⟩
theorem TRows.alloc {B n m:Nat} {xs:List Nat} {ys:List Int} {smv mkv:Value} {W:World} (h:TRows B n m xs ys smv mkv W) (o:Obj):TRows B n m xs ys smv mkv (W.alloc o):=h.step ((Below.refl _ _).alloc (Nat.le_refl _) o)
theorem TRows.box {B n m:Nat} {xs:List Nat} {ys:List Int} {smv mkv:Value} {W w0:World} (h:TRows B n m xs ys smv mkv W) {b:Nat} {C:Array Value} (hb:Box w0 b C 29 W) (j:Nat) (u:Value):TRows B n m xs ys smv mkv (W.setCell ⟨b,j,none⟩ u) :=
 ⟨ownsRow_set h.S hb.blk (by decide) u,ownsRow_set h.M hb.blk (by decide) u,h.hx,h.hy⟩
theorem Box.set5 {w0 W:World} {b:Nat} {v0 v1 v2 v3 v4:Value} {T:TypeId} (h:Box w0 b #[v0,v1,v2,v3,v4] T W) (hb:w0.heap.size ≤ b) (u0 u1 u2 u3 u4:Value) :
   Box w0 b #[u0,u1,u2,u3,u4] T (((((W.setCell ⟨b,0,none⟩ u0).setCell ⟨b,1,none⟩ u1).setCell ⟨b,2,none⟩ u2).setCell ⟨b,3,none⟩ u3).setCell ⟨b,4,none⟩ u4) :=
 ((((h.set hb 0 u0).set hb 1 u1).set hb 2 u2).set hb 3 u3).set hb 4 u4
theorem TRows.box5 {B n m:Nat} {xs:List Nat} {ys:List Int} {smv mkv:Value} {W w0:World} (h:TRows B n m xs ys smv mkv W) {b:Nat} {v0 v1 v2 v3 v4:Value} (hb:Box w0 b #[v0,v1,v2,v3,v4] 29 W) (hw:w0.heap.size ≤ b) (u0 u1 u2 u3 u4:Value) :
   TRows B n m xs ys smv mkv (((((W.setCell ⟨b,0,none⟩ u0).setCell ⟨b,1,none⟩ u1).setCell ⟨b,2,none⟩ u2).setCell ⟨b,3,none⟩ u3).setCell ⟨b,4,none⟩ u4):=by
 have b1:=hb.set hw 0 u0
 have b2:=b1.set hw 1 u1
 have b3:=b2.set hw 2 u2
 have b4:=b3.set hw 3 u3
 exact ((((h.box hb 0 u0).box b1 1 u1).box b2 2 u2).box b3 3 u3).box b4 4 u4
theorem TRows.setM {B n m:Nat} {xs:List Nat} {ys:List Int} {smv:Value} {g cap:Nat} {W:World} (h:TRows B n m xs ys smv (.slice (some ⟨g,0,none⟩) m cap) W) (j:Nat) {u:Int} (hu:-1 ≤ u ∧ u ≤ 2) :
   TRows B n m xs (ys.set j u) smv (.slice (some ⟨g,0,none⟩) m cap) (W.setCell ⟨g,j,none⟩ (.int .i64 u)):=by
 have hs:=h.M.stored j (.int .i64 u)
 refine ⟨?_,?_,h.hx,?_⟩
 · exact h.S.kept hs.2 (by have:=ownsRow_apart h.S h.M (by decide); simpa [Value.ownBlock] using this)
 · have:=hs.1
   rw [List.map_set]
   exact this
 · intro y hy
   rcases List.mem_or_eq_of_mem_set hy with hy | rfl
   · exact h.hy y hy
   · exact hu
theorem TRows.setS {B n m:Nat} {xs:List Nat} {ys:List Int} {mkv:Value} {g cap:Nat} {W:World} (h:TRows B n m xs ys (.slice (some ⟨g,0,none⟩) n cap) mkv W) (j:Nat) {u:Nat} (hu:u < 4294967296) :
   TRows B n m (xs.set j u) ys (.slice (some ⟨g,0,none⟩) n cap) mkv (W.setCell ⟨g,j,none⟩ (.float .f32 u)):=by
 have hs:=h.S.stored j (.float .f32 u)
 refine ⟨?_,?_,?_,h.hy⟩
 · have:=hs.1
   rw [List.map_set]
   exact this
 · exact h.M.kept hs.2 (by have:=ownsRow_apart h.M h.S (by decide); simpa [Value.ownBlock] using this)
 · intro x hx
   rcases List.mem_or_eq_of_mem_set hx with hx | rfl
   · exact h.hx x hx
   · exact hu
theorem cellM {B n m:Nat} {xs:List Nat} {ys:List Int} {smv:Value} {g cap:Nat} {W:World} (h:TRows B n m xs ys smv (.slice (some ⟨g,0,none⟩) m cap) W) {j:Nat} (hj:j < m):(∃ y,W.cell? ⟨g,j,none⟩=some (.int .i64 y)) ∧ W.frozen? ⟨g,j,none⟩=false:=by
 have hl:=h.ly
 refine ⟨⟨ys[j]'(by omega),?_⟩,h.M.frozenAt j⟩
 rw [h.M.cellAt j (by omega),List.getElem?_map,List.getElem?_eq_getElem (by omega)]
 rfl
theorem cellS {B n m:Nat} {xs:List Nat} {ys:List Int} {mkv:Value} {g cap:Nat} {W:World} (h:TRows B n m xs ys (.slice (some ⟨g,0,none⟩) n cap) mkv W) {j:Nat} (hj:j < n):(∃ y,W.cell? ⟨g,j,none⟩=some (.float .f32 y)) ∧ W.frozen? ⟨g,j,none⟩=false:=by
 have hl:=h.lx
 refine ⟨⟨xs[j]'(by omega),?_⟩,h.S.frozenAt j⟩
 rw [h.S.cellAt j (by omega),List.getElem?_map,List.getElem?_eq_getElem (by omega)]
 rfl
structure TileIn (B:Nat) (W:World) (v:Value) (cx cy:Nat) (deep size:Int) (xs:List Nat) (ys:List Int):Prop where
 form:∃ a c a' c',v=.agg #[.complex .f32 cx cy,.int .i64 deep,.int .i64 size,.slice a xs.length c,.slice a' ys.length c'] ∧ Sl W a (xs.map floV) ∧ Sl W a' (ys.map intV) ∧ xs.length ≤ c ∧ ys.length ≤ c' ∧ (∀ g o s,a=some ⟨g,o,s⟩ → B ≤ g) ∧ (∀ g o s,a'=some ⟨g,o,s⟩ → B ≤ g)
 hx:∀ x,x ∈ xs → x < 4294967296
 hy:∀ y,y ∈ ys → -1 ≤ y ∧ y ≤ 2
theorem TileIn.step {B:Nat} {W W':World} {v:Value} {cx cy:Nat} {deep size:Int} {xs:List Nat} {ys:List Int} (h:TileIn B W v cx cy deep size xs ys) (k:Below W.heap.size W W'):TileIn B W' v cx cy deep size xs ys:=by
 obtain ⟨⟨a,c,a',c',rfl,h1,h2,h3⟩,hx,hy⟩:=h
 exact ⟨⟨a,c,a',c',rfl,h1.step k,h2.step k,h3⟩,hx,hy⟩
theorem sl_of_own {w:World} {base:Nat} {e:TypeId} {g cap n:Nat} {xs:List Value} (h:w.ownsRow base e 1 (.slice (some ⟨g,0,none⟩) n cap) n xs):Sl w (some ⟨g,0,none⟩) xs:=by
 refine .inr ⟨g,0,rfl,fun i v hv => ?_⟩
 have hl:i < xs.length:=(List.getElem?_eq_some_iff.1 hv).1
 rw [Nat.zero_add,h.cellAt i (by have:=h.1; omega)]
 exact hv
theorem sl_tail {w:World} {g:Nat} {x:Value} {xs:List Value} (h:Sl w (some ⟨g,0,none⟩) (x :: xs)):Sl w (some ⟨g,1,none⟩) xs:=by
 rcases h with h | ⟨b,o,hb,h⟩
 · cases h
 · injection hb with hb
   injection hb with h1 h2 _
   subst h1 h2
   refine .inr ⟨g,1,rfl,fun i v hv => ?_⟩
   have:=h (i + 1) v (by simpa using hv)
   rw [Nat.zero_add] at this
   rw [Nat.add_comm 1 i]
   exact this
def TileOut (B:Nat) (e:Ending) (w':World):Prop :=
 ∃ v cx cy deep size xs ys,e=.returned v ∧ TileIn B w' v cx cy deep size xs ys ∧ cx < 4294967296 ∧ cy < 4294967296 ∧ placeB cx cy deep size=true ∧ ys.length=size.toNat * size.toNat ∧ (xs.length=ys.length ∨ xs.length + 1=ys.length)
theorem own_ge {w:World} {base:Nat} {e:TypeId} {g cap n m size:Nat} {xs:List Value} (h:w.ownsRow base e size (.slice (some ⟨g,0,none⟩) m cap) n xs):base ≤ g:=by
 rcases h.2 with ⟨h,_⟩ | ⟨g',cap',cur,hv,hg,_⟩
 · cases h
 · injection hv with h1 h2 h3
   injection h1 with h1
   injection h1 with h1
   rw [h1]; exact hg
theorem TileOut.rows {B n gs cs gm cm cx cy:Nat} {deep size:Int} {xs:List Nat} {ys:List Int} {W:World} (h:TRows B n n xs ys (.slice (some ⟨gs,0,none⟩) n cs) (.slice (some ⟨gm,0,none⟩) n cm) W) (hx:cx < 4294967296) (hy:cy < 4294967296) (hp:placeB cx cy deep size=true) (hn:n=size.toNat * size.toNat) (h1:n ≤ cs) (h2:n ≤ cm) :
   TileOut B (.returned (.agg #[.complex .f32 cx cy,.int .i64 deep,.int .i64 size,.slice (some ⟨gs,0,none⟩) n cs,.slice (some ⟨gm,0,none⟩) n cm])) W:=by
 have lx:=h.lx
 have ly:=h.ly
 refine ⟨_,cx,cy,deep,size,xs,ys,rfl,⟨⟨_,cs,_,cm,by rw [lx,ly],sl_of_own h.S,sl_of_own h.M,by omega,by omega,fun g o s e => ?_,fun g o s e => ?_⟩,h.hx,h.hy⟩,hx,hy,hp,by omega,.inl (by omega)⟩
 · injection e with e; injection e with e; rw [← e]; exact own_ge h.S
 · injection e with e; injection e with e; rw [← e]; exact own_ge h.M
theorem TileOut.tail {B n gs cs gm cm cx cy:Nat} {deep size:Int} {xs:List Nat} {ys:List Int} {W:World} {a:Option Addr} {c l:Nat} (h:TRows B n n xs ys (.slice (some ⟨gs,0,none⟩) n cs) (.slice (some ⟨gm,0,none⟩) n cm) W) (hx:cx < 4294967296) (hy:cy < 4294967296) (hp:placeB cx cy deep size=true) (hn:n=size.toNat * size.toNat) (h1:n ≤ cs) (h2:n ≤ cm)
   (hl:l + 1=n) (hc:c + 1=cs) (ha:(l=0 ∧ a=some ⟨gs,0,none⟩) ∨ a=some ⟨gs,1,none⟩) :
   TileOut B (.returned (.agg #[.complex .f32 cx cy,.int .i64 deep,.int .i64 size,.slice a l c,.slice (some ⟨gm,0,none⟩) n cm])) W:=by
 have lx:=h.lx
 have ly:=h.ly
 cases xs with
 | nil => simp at lx; omega
 | cons x xs =>
   have hl2:xs.length=l:=by simp at lx; omega
   refine ⟨_,cx,cy,deep,size,xs,ys,rfl,⟨⟨_,c,_,cm,by rw [hl2,ly],?_,sl_of_own h.M,by omega,by omega,fun g o s e => ?_,fun g o s e => ?_⟩,fun x hx => h.hx x (List.mem_cons_of_mem _ hx),h.hy⟩,hx,hy,hp,by omega,.inr (by omega)⟩
   rotate_left
   · rcases ha with ⟨_,rfl⟩ | rfl
     · injection e with e; injection e with e; rw [← e]; exact own_ge h.S
     · injection e with e; injection e with e; rw [← e]; exact own_ge h.S
   · injection e with e; injection e with e; rw [← e]; exact own_ge h.M
   rcases ha with ⟨h0,_⟩ | rfl
   · left
     have:xs=[]:=List.eq_nil_of_length_eq_zero (by omega)
     rw [this]; rfl
   · exact sl_tail (sl_of_own h.S)
end Go.Proofs.YtokbalggdhippaaGreat
end

section
namespace Go.Proofs.YtokbalggdhippaaGreat
open Go.RowKit
def markB (y:Int):Bool:=inB y (-1) 1
def wellB (size:Int) (n:Nat) (ys:List Int):Bool:=decide ((n:Int)=size * size) && decide (ys.length=n) && ys.all markB
theorem wellB_len {size:Int} {n:Nat} {ys:List Int} (h:¬ (n:Int)=size * size):wellB size n ys=false:=by unfold wellB; rw [decide_eq_false h]; rfl
theorem wellB_len2 {size:Int} {n:Nat} {ys:List Int} (h:¬ ys.length=n):wellB size n ys=false:=by unfold wellB; rw [decide_eq_false h]; simp
theorem wellB_bad {size:Int} {n k:Nat} {ys:List Int} (hk:k < ys.length) (h:markB ys[k]=false):wellB size n ys=false:=by
 unfold wellB
 have:ys.all markB=false:=by
   rw [List.all_eq_false]
   exact ⟨_,List.getElem_mem hk,by rw [h]; decide⟩
 rw [this,Bool.and_false]
theorem wellB_ok {size:Int} {n:Nat} {ys:List Int} (h1:(n:Int)=size * size) (h2:ys.length=n) (h:∀ j (hj:j < ys.length),markB ys[j]=true):wellB size n ys=true:=by
 unfold wellB
 rw [decide_eq_true h1,decide_eq_true h2,Bool.true_and,Bool.true_and,List.all_eq_true]
 intro y hy
 obtain ⟨j,hj,rfl⟩:=List.getElem_of_mem hy
 exact h j hj
theorem wellB_all {size:Int} {n:Nat} {ys:List Int} (h:wellB size n ys=true):(n:Int)=size * size ∧ ys.length=n ∧ ∀ y,y ∈ ys → -1 ≤ y ∧ y ≤ 1:=by
 unfold wellB markB inB at h
 simp only [Bool.and_eq_true,decide_eq_true_eq,List.all_eq_true] at h
 exact ⟨h.1.1,h.1.2,h.2⟩
set_option maxRecDepth 100000 in
set_option maxHeartbeats 1000000 in
theorem specWell_is (cx cy:Nat) (deep size:Int) (hx:cx < 4294967296) (hy:cy < 4294967296) (hp:placeB cx cy deep size=true) (a a':Option Addr) (n c c':Nat) (ys:List Int) (hl:ys.length ≤ 1048576) (w:World) (hs:Sl w a' (ys.map intV)) :
   Calls Vp.prog 38 #[.agg #[.complex .f32 cx cy,.int .i64 deep,.int .i64 size,.slice a n c,.slice a' ys.length c']] w fun e w' => e=.returned (.bool (wellB size n ys)) ∧ Below w.heap.size w w':=by
 obtain ⟨h1,h2,h3,h4⟩:=placeB_bd hp
 have hP:=l7Place_is cx cy deep size hx hy
 rw [hp] at hP
 have HP:=Lib.hid hP
 have B:=Box.new w #[.complex .f32 cx cy,.int .i64 deep,.int .i64 size,.slice a n c,.slice a' ys.length c'] 29
 have HS:=Lib.hid (hs.alloc (.cells #[.complex .f32 cx cy,.int .i64 deep,.int .i64 size,.slice a n c,.slice a' ys.length c'] 29))
 obtain ⟨m,hm⟩:∃ m,ys.length=m:=⟨_,rfl⟩
 obtain ⟨q,hq⟩:∃ q,size * size=q:=⟨_,rfl⟩
 have hqw:wrap64 (size * size)=q:=by
   have h5:size=1 ∨ size=2 ∨ size=3 ∨ size=4 ∨ size=5 ∨ size=6 ∨ size=7 ∨ size=8:=by omega
   have h6:0 ≤ q ∧ q ≤ 64:=by
     rcases h5 with rfl | rfl | rfl | rfl | rfl | rfl | rfl | rfl <;> omega
   rw [hq]; unfold wrap64; omega
 have HW1:Hid (¬ (n:Int)=q → wellB size n ys=false):=fun h => wellB_len (by rw [hq]; exact h)
 have HW2:Hid (¬ m=n → wellB size n ys=false):=fun h => wellB_len2 (by rw [hm]; exact h)
 have HW3:Hid (∀ k (h:k < m),markB (ys[k]'(by rw [hm]; exact h))=false → wellB size n ys=false):=fun k h => wellB_bad (by rw [hm]; exact h)
 have HW4:Hid ((n:Int)=q → m=n → (∀ k (h:k < m),markB (ys[k]'(by rw [hm]; exact h))=true) → wellB size n ys=true):=fun h1 h2 h3 => wellB_ok (by rw [hq]; exact h1) (by rw [hm]; exact h2) (fun j hj => h3 j (by rw [← hm]; exact hj))
 have HY:Hid (∀ k (h:k < m),(ys.map intV)[k]?=some (.int .i64 (ys[k]'(by rw [hm]; exact h)))):=fun k h => by rw [List.getElem?_map,List.getElem?_eq_getElem (by rw [hm]; exact h)]; rfl
 rw [hm] at B HS hl ⊢
 have HM:=Lib.hid hm
 clear hP hp hs hq h1 h2 h3 h4
 generalize wellB size n ys=R at *
 go_enter Vp.func38,Tryz.ntmps38
 go_wp2_with fail
 refine (HP.out _).mono ?_
 rintro e w1 ⟨rfl,hd⟩
 replace B:=B.step (hd.below _)
 have HS1:=Lib.hid (HS.out.drw hd)
 clear hd HS HP
 have b2:=B.cell 2 _ rfl
 have b3:=B.cell 3 _ rfl
 have b4:=B.cell 4 _ rfl
 have HB:=Lib.hid B.old
 clear B
 by_cases c1:(n:Int)=q
 · have t1:((n:Int) != q)=false:=by simpa using c1
   by_cases c2:m=n
   · have t2:((m:Int) != n)=false:=by simp; omega
     have HR:=Lib.hid (HW4.out c1 c2)
     clear c1 c2 HW1 HW2 HW4
     go_wp2
     simp only [hqw]
     clear hqw
     go_loopw [2,3] (fun _ i wr => ∃ k:Nat,k ≤ m ∧ i=.int .i64 k ∧ wr=w1 ∧ Hid (∀ j (h:j < m),j < k → markB (ys[j]'(by rw [HM.out]; exact h))=true)) (fun _ i _ => (m - intOf i).toNat)
     case atStart => exact ⟨0,by omega,rfl,rfl,fun j _ hj => by omega⟩
     case round =>
       obtain ⟨k,hk,rfl,rfl,HD⟩:=hrel
       by_cases hlt:k < m
       · have hx:=HY.out k hlt
         obtain ⟨b,off,rfl,hc⟩:=HS1.out.at hx
         have HD2:Hid (markB (ys[k]'(by rw [HM.out]; exact hlt))=true → ∀ j (h:j < m),j < k + 1 → markB (ys[j]'(by rw [HM.out]; exact h))=true):=fun hyes j h hj => by
           by_cases e:j=k
           · subst e; exact hyes
           · exact HD.out j h (by omega)
         have HN:=Lib.hid (HW3.out k hlt)
         clear hx
         generalize ys[k]'(by rw [HM.out]; exact hlt)=y at *
         cases hok:markB y with
         | false =>
           have HK:=Lib.hid hok
           unfold markB at hok
           go_wp2_with (go_at_call 44; refine (l6In_any _ _ _ _).mono ?_; rw [hok]; rintro e w' ⟨rfl,rfl⟩)
           go_ret
           exact ⟨ret_bool (HN.out HK.out).symm,HB.out⟩
         | true =>
           have HK:=Lib.hid hok
           unfold markB at hok
           go_wp2_with (go_at_call 44; refine (l6In_any _ _ _ _).mono ?_; rw [hok]; rintro e w' ⟨rfl,rfl⟩)
           go_roundw
           case rel => exact ⟨k + 1,by omega,by go_num,by trivial,HD2.out HK.out⟩
           case measure => simp [intOf]; omega
       · go_wp2
         go_ret
         exact ⟨ret_bool (HR.out (fun j h => HD.out j h (by omega))).symm,HB.out⟩
   · have t2:((m:Int) != n)=true:=by simp; omega
     have HR:=Lib.hid (HW2.out c2)
     clear c1 c2
     go_wp2
     go_ret
     exact ⟨ret_bool HR.out.symm,HB.out⟩
 · have t1:((n:Int) != q)=true:=by simpa using c1
   have HR:=Lib.hid (HW1.out c1)
   clear c1
   go_wp2
   go_ret
   exact ⟨ret_bool HR.out.symm,HB.out⟩
set_option maxRecDepth 100000 in
set_option maxHeartbeats 1000000 in
theorem implWell_is (cx cy:Nat) (deep size:Int) (hx:cx < 4294967296) (hy:cy < 4294967296) (hp:placeB cx cy deep size=true) (a a':Option Addr) (n c c':Nat) (ys:List Int) (hl:ys.length ≤ 1048576) (w:World) (hs:Sl w a' (ys.map intV)) :
   Calls Vp.prog 17 #[.agg #[.complex .f32 cx cy,.int .i64 deep,.int .i64 size,.slice a n c,.slice a' ys.length c']] w fun e w' => e=.returned (.bool (wellB size n ys)) ∧ Below w.heap.size w w':=by
 obtain ⟨h1,h2,h3,h4⟩:=placeB_bd hp
 have hP:=placeWell_ok cx cy deep size hx hy
 replace hP:=hP hp
 have HP:=Lib.hid hP
 have B:=Box.new w #[.complex .f32 cx cy,.int .i64 deep,.int .i64 size,.slice a n c,.slice a' ys.length c'] 29
 have HS:=Lib.hid (hs.alloc (.cells #[.complex .f32 cx cy,.int .i64 deep,.int .i64 size,.slice a n c,.slice a' ys.length c'] 29))
 obtain ⟨m,hm⟩:∃ m,ys.length=m:=⟨_,rfl⟩
 obtain ⟨q,hq⟩:∃ q,size * size=q:=⟨_,rfl⟩
 have hqw:wrap64 (size * size)=q:=by
   have h5:size=1 ∨ size=2 ∨ size=3 ∨ size=4 ∨ size=5 ∨ size=6 ∨ size=7 ∨ size=8:=by omega
   have h6:0 ≤ q ∧ q ≤ 64:=by
     rcases h5 with rfl | rfl | rfl | rfl | rfl | rfl | rfl | rfl <;> omega
   rw [hq]; unfold wrap64; omega
 have HW1:Hid (¬ (n:Int)=q → wellB size n ys=false):=fun h => wellB_len (by rw [hq]; exact h)
 have HW2:Hid (¬ m=n → wellB size n ys=false):=fun h => wellB_len2 (by rw [hm]; exact h)
 have HW3:Hid (∀ k (h:k < m),markB (ys[k]'(by rw [hm]; exact h))=false → wellB size n ys=false):=fun k h => wellB_bad (by rw [hm]; exact h)
 have HW4:Hid ((n:Int)=q → m=n → (∀ k (h:k < m),markB (ys[k]'(by rw [hm]; exact h))=true) → wellB size n ys=true):=fun h1 h2 h3 => wellB_ok (by rw [hq]; exact h1) (by rw [hm]; exact h2) (fun j hj => h3 j (by rw [← hm]; exact hj))
 have HY:Hid (∀ k (h:k < m),(ys.map intV)[k]?=some (.int .i64 (ys[k]'(by rw [hm]; exact h)))):=fun k h => by rw [List.getElem?_map,List.getElem?_eq_getElem (by rw [hm]; exact h)]; rfl
 rw [hm] at B HS hl ⊢
 have HM:=Lib.hid hm
 clear hP hp hs hq h1 h2 h3 h4
 generalize wellB size n ys=R at *
 go_enter Vp.func17,Tryz.ntmps17
 go_wp2_with fail
 refine (HP.out _).mono ?_
 rintro e w1 ⟨rfl,rfl⟩
 clear HP
 have b2:=B.cell 2 _ rfl
 have b3:=B.cell 3 _ rfl
 have b4:=B.cell 4 _ rfl
 have HB:=Lib.hid B.old
 clear B
 by_cases c1:(n:Int)=q
 · have t1:((n:Int) != q)=false:=by simpa using c1
   by_cases c2:m=n
   · have t2:((m:Int) != q)=false:=by simp; omega
     have HR:=Lib.hid (HW4.out c1 c2)
     clear c1 c2 HW1 HW2 HW4
     go_wp2
     simp only [hqw]
     clear hqw
     go_loop [2,5,34] (fun _ _ i => ∃ k:Nat,k ≤ m ∧ i=.int .i64 k ∧ Hid (∀ j (h:j < m),j < k → markB (ys[j]'(by rw [HM.out]; exact h))=true)) (fun _ _ i => (m - intOf i).toNat)
     case atStart => exact ⟨0,by omega,rfl,fun j _ hj => by omega⟩
     case round =>
       obtain ⟨k,hk,rfl,HD⟩:=hrel
       by_cases hlt:k < m
       · have hx:=HY.out k hlt
         obtain ⟨b,off,rfl,hc⟩:=HS.out.at hx
         have HD2:Hid (markB (ys[k]'(by rw [HM.out]; exact hlt))=true → ∀ j (h:j < m),j < k + 1 → markB (ys[j]'(by rw [HM.out]; exact h))=true):=fun hyes j h hj => by
           by_cases e:j=k
           · subst e; exact hyes
           · exact HD.out j h (by omega)
         have HN:=Lib.hid (HW3.out k hlt)
         clear hx
         generalize ys[k]'(by rw [HM.out]; exact hlt)=y at *
         by_cases y1:y < -1
         · have hok:markB y=false:=by unfold markB inB; simp; omega
           have HK:=Lib.hid hok
           clear hok
           go_wp2
           go_ret
           exact ⟨ret_bool (HN.out HK.out).symm,HB.out⟩
         · by_cases y2:1 < y
           · have hok:markB y=false:=by unfold markB inB; simp; omega
             have HK:=Lib.hid hok
             clear hok
             go_wp2
             go_ret
             exact ⟨ret_bool (HN.out HK.out).symm,HB.out⟩
           · have hok:markB y=true:=by unfold markB inB; simp; omega
             have HK:=Lib.hid hok
             clear hok
             go_wp2
             go_round
             case rel => exact ⟨k + 1,by omega,by go_num,HD2.out HK.out⟩
             case measure => simp [intOf]; omega
       · go_wp2
         go_ret
         exact ⟨ret_bool (HR.out (fun j h => HD.out j h (by omega))).symm,HB.out⟩
   · have t2:((m:Int) != q)=true:=by simp; omega
     have HR:=Lib.hid (HW2.out c2)
     clear c1 c2
     go_wp2
     go_ret
     exact ⟨ret_bool HR.out.symm,HB.out⟩
 · have t1:((n:Int) != q)=true:=by simpa using c1
   have HR:=Lib.hid (HW1.out c1)
   clear c1
   go_wp2
   go_ret
   exact ⟨ret_bool HR.out.symm,HB.out⟩
end Go.Proofs.YtokbalggdhippaaGreat
end

section
namespace Go.Proofs.YtokbalggdhippaaGreat
open Go.RowKit Flo
theorem place_pts {cx cy:Nat} {deep size:Int} (hx:cx < 4294967296) (hy:cy < 4294967296) (hp:placeB cx cy deep size=true):∃ (d:Nat) (A B:Int),deep=d ∧ d ≤ 10 ∧ Pt cx d A ∧ Pt cy d B ∧ A.natAbs ≤ 4 * 2 ^ d ∧ B.natAbs ≤ 4 * 2 ^ d ∧ A.natAbs ≤ 4096 ∧ B.natAbs ≤ 4096:=by
 obtain ⟨h1,h2,h3,h4⟩:=placeB_bd hp
 obtain ⟨d,rfl⟩:=Int.eq_ofNat_of_zero_le h1
 unfold placeB at hp
 rw [Bool.and_eq_true,Bool.and_eq_true,Int.toNat_natCast] at hp
 obtain ⟨A,hA,ha⟩:=whole_pt hx (by omega) hp.1.2
 obtain ⟨B,hB,hb⟩:=whole_pt hy (by omega) hp.2
 have hdp:2 ^ d ≤ 2 ^ 10:=Nat.pow_le_pow_right (by omega) (by omega)
 exact ⟨d,A,B,rfl,by omega,hA,hB,ha,hb,by omega,by omega⟩
end Go.Proofs.YtokbalggdhippaaGreat
end

section
namespace Go.Proofs.YtokbalggdhippaaGreat.Co
def HW (P:Program) (s:List Item) (H:List Item → Act → World → Prop) (a:Act) (w:World):Prop :=
 ∀ (b:Frame) (k:List Item) (cs:List Frame),∃ t a' w',H t a' w' ∧ Steps P (lone (b.at a (s ++ k)) cs w) (lone (b.at a' (t ++ k)) cs w')
section
variable {P:Program} {H:List Item → Act → World → Prop} {a a':Act} {w w':World} {s s':List Item}
theorem HW.stop (h:H s a w):HW P s H a w:=fun b k cs => ⟨s,a,w,h,.refl _ _⟩
theorem HW.mono {H':List Item → Act → World → Prop} (h:HW P s H a w) (k:∀ t a w,H t a w → H' t a w):HW P s H' a w:=fun b l cs =>
 let ⟨t,a',w',x,y⟩:=h b l cs
 ⟨t,a',w',k _ _ _ x,y⟩
theorem HW.step (h:∀ (b:Frame) (k:List Item) (cs:List Frame),Go.step P (lone (b.at a (s ++ k)) cs w)=.next (lone (b.at a' (s' ++ k)) cs w')) (hn:HW P s' H a' w'):HW P s H a w:=fun b k cs =>
 let ⟨t,a2,w2,x,y⟩:=hn b k cs
 ⟨t,a2,w2,x,.head (h b k cs) y⟩
theorem HW.trans {N:List Item → Act → World → Prop} (h:HW P s N a w) (hn:∀ t a w,N t a w → HW P t H a w):HW P s H a w:=fun b k cs =>
 let ⟨t,a1,w1,x,y⟩:=h b k cs
 let ⟨t2,a2,w2,x2,y2⟩:=hn t a1 w1 x b k cs
 ⟨t2,a2,w2,x2,y.trans y2⟩
def onlyN (N:Act → World → Prop):Exit → Act → World → Prop
 | .normal,a,w => N a w
 | _,_,_ => False
theorem HW.codeN {c:Code} {N:Act → World → Prop} (h:c.wp P (onlyN N) a w) (hn:∀ a w,N a w → HW P s H a w):HW P (.code c :: s) H a w:=fun b k cs => by
 obtain ⟨e,a1,w1,hN,harr⟩:=h b (s ++ k) cs
 cases e <;> first
   | exact hN.elim
   | skip
 obtain ⟨t,a2,w2,x,y⟩:=hn a1 w1 hN b k cs
 exact ⟨t,a2,w2,x,Steps.trans harr y⟩
theorem HW.code0 {c:Code} (h:c.wp P (onlyN fun a w => HW P s H a w) a w):HW P (.code c :: s) H a w:=.codeN h fun _ _ h => h
theorem HW.code {c:Code} {N:Act → World → Prop} (h:c.wp P (fun e a w => e=.normal ∧ N a w) a w) (hn:∀ a w,N a w → HW P s H a w):HW P (.code c :: s) H a w:=fun b k cs => by
 obtain ⟨e,a1,w1,⟨rfl,hN⟩,harr⟩:=h b (s ++ k) cs
 obtain ⟨t,a2,w2,x,y⟩:=hn a1 w1 hN b k cs
 exact ⟨t,a2,w2,x,Steps.trans harr y⟩
theorem HW.seq {x y:Code} (h:HW P (.code x :: .code y :: s) H a w):HW P (.code (.seq x y) :: s) H a w:=.step (fun _ _ _ => step_seq) h
theorem HW.cond {c:Operand} {x y:Code} {t:Bool} (hc:a.eval c=.bool t) (h:HW P (.code (if t then x else y) :: s) H a w):HW P (.code (.cond c x y) :: s) H a w:=.step (fun _ _ _ => step_cond hc) h
theorem HW.block {id:Nat} {c:Code} (h:HW P (.code c :: .inBlock id :: s) H a w):HW P (.code (.block id c) :: s) H a w:=.step (fun _ _ _ => step_block) h
theorem HW.inBlock {id:Nat} (h:HW P s H a w):HW P (.inBlock id :: s) H a w:=.step (fun _ _ _ => step_inBlock) h
theorem HW.loop {c:Code} (h:HW P (.code c :: .inLoop c :: s) H a w):HW P (.code (.loop c) :: s) H a w:=.step (fun _ _ _ => step_loop) h
theorem HW.inLoop {c:Code} (h:HW P (.code c :: .inLoop c :: s) H a w):HW P (.inLoop c :: s) H a w:=.step (fun _ _ _ => step_inLoop) h
theorem HW.skip (h:HW P s H a w):HW P (.code .skip :: s) H a w:=.step (fun _ _ _ => step_skip) h
theorem exitTo_app {id:Nat}:∀ {s s' k:List Item},exitTo id s=some s' → exitTo id (s ++ k)=some (s' ++ k)
 | [],_,_,h => by simp [exitTo] at h
 | x :: s,s',k,h => by
   cases x with
   | inBlock j =>
     simp only [exitTo,List.cons_append] at h ⊢
     split at h
     · rename_i e
       rw [if_pos e]
       cases h
       rfl
     · rename_i e
       rw [if_neg e]
       exact exitTo_app h
   | _ =>
     simp only [exitTo,List.cons_append] at h ⊢
     exact exitTo_app h
theorem HW.exit {id:Nat} (h0:exitTo id s=some s') (h:HW P s' H a w):HW P (.code (.exit id) :: s) H a w:=.step (fun _ _ _ => step_exit (exitTo_app h0)) h
end
end Go.Proofs.YtokbalggdhippaaGreat.Co
end
