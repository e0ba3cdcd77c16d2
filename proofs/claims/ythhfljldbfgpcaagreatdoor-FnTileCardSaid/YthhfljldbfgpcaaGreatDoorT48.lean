/- Merged texts: BlA, Rd, RdF, TilP, TilH, LawT. -/
import Derived.Test.YthhfljldbfgpcaaGreatDoorT47
import Derived.Test.YthhfljldbfgpcaaGreatDoorT20
import Derived.Test.YthhfljldbfgpcaaGreatDoorT3
import Derived.Test.YthhfljldbfgpcaaGreatDoorRows
import Derived.Test.YthhfljldbfgpcaaGreatDoorT4
import Derived.Laws.BitsAllLaws
import Derived.Deep.Cut
import Derived.Test.YthhfljldbfgpcaaGreatDoorT2
import Derived.Test.YthhfljldbfgpcaaGreatDoorT19
import Derived.Deep.RegionWith
set_option linter.all false
section
namespace Go.Proofs.YthhfljldbfgpcaaGreatDoor
open Go.RowKit Flo
structure MkT (cx cy d s:Nat) (a b:Int):Prop where
 hx:cx < 4294967296
 hy:cy < 4294967296
 pl:placeB cx cy d s=true
 d10:d ≤ 10
 s1:1 ≤ s
 s8:s ≤ 8
 px:Pt cx d a
 py:Pt cy d b
 ha:a.natAbs ≤ 4 * 2 ^ d
 hb:b.natAbs ≤ 4 * 2 ^ d
 ga:a + s ≤ ((8 * 2 ^ d:Nat):Int)
 gb:b + s ≤ ((8 * 2 ^ d:Nat):Int)
def MkP (cx cy:Nat) (deep size:Int):Prop:=∃ (d s:Nat) (a b:Int),deep=d ∧ size=s ∧ MkT cx cy d s a b
theorem pt_inj {x d:Nat} {a b:Int} (h:Pt x d a) (g:Pt x d b):a=b:=by
 have e:=h.iv.symm.trans g.iv
 have hp:((2 ^ (u32 - d):Nat):Int) ≠ 0:=by have:=Nat.two_pow_pos (u32 - d); omega
 exact Int.eq_of_mul_eq_mul_right hp e
def TGood (most:Int) (t:TRec):Prop:=∃ (d s:Nat) (a b:Int),t.deep=d ∧ t.size=s ∧ MkT t.cx t.cy d s a b ∧ t.xs=rowsOf s (smT t.cx t.cy d most) s ∧ t.ys=rowsOf s (stT a b d most) s
theorem TGood.same {most:Int} {t u:TRec} (h:TGood most t) (g:TGood most u) (ex:t.cx=u.cx) (ey:t.cy=u.cy) (ed:t.deep=u.deep) (es:t.size=u.size):t.xs=u.xs ∧ t.ys=u.ys:=by
 obtain ⟨d,s,a,b,h1,h2,h3,h4,h5⟩:=h
 obtain ⟨d',s',a',b',g1,g2,g3,g4,g5⟩:=g
 obtain rfl:d=d':=by omega
 obtain rfl:s=s':=by omega
 have hx:=h3.px
 have hy:=h3.py
 rw [ex] at hx
 rw [ey] at hy
 obtain rfl:=pt_inj hx g3.px
 obtain rfl:=pt_inj hy g3.py
 rw [h4,h5,g4,g5,ex,ey]
 exact ⟨rfl,rfl⟩
def MakeRes2 (w:World) (cx cy:Nat) (deep size most:Int) (ok:Bool) (v:Value) (w':World):Prop :=
 (ok=false → ¬ MkP cx cy deep size ∧ v=.agg #[.complex .f32 0 0,.int .i64 0,.int .i64 0,.slice none 0 0,.slice none 0 0]) ∧ (ok=true → ∃ t:TRec,t.cx=cx ∧ t.cy=cy ∧ t.deep=deep ∧ t.size=size ∧ v=.agg t.cells.toArray ∧ TOwn w.heap.size t w' ∧ TGood most t)
def OneRes (w:World) (cx cy:Nat) (deep size most:Int) (e:Ending) (w':World):Prop :=
 (∃ (x y:Nat) (d s:Int) (a1:Option Addr) (n1 c1:Nat) (a2:Option Addr) (n2 c2:Nat) (ok:Bool),e=.returned (.tuple #[.agg #[.complex .f32 x y,.int .i64 d,.int .i64 s,.slice a1 n1 c1,.slice a2 n2 c2],.bool ok]) ∧ MakeRes2 w cx cy deep size most ok (.agg #[.complex .f32 x y,.int .i64 d,.int .i64 s,.slice a1 n1 c1,.slice a2 n2 c2]) w') ∧ Below w.heap.size w w'
theorem mkP_place {cx cy:Nat} {deep size:Int} (h:MkP cx cy deep size):placeB cx cy deep size=true:=by
 obtain ⟨d,s,a,b,rfl,rfl,h⟩:=h
 exact h.pl
theorem one_no {w w':World} {cx cy:Nat} {deep size most:Int} (h:¬ MkP cx cy deep size) (hb:Below w.heap.size w w'):OneRes w cx cy deep size most (.returned zTileV) w' :=
 ⟨⟨0,0,0,0,none,0,0,none,0,0,false,rfl,fun _ => ⟨h,rfl⟩,fun h => by cases h⟩,hb⟩
theorem one_yes {w w':World} {cx cy d s:Nat} {a b most:Int} (h:MkT cx cy d s a b) {smv mkv:Value} (hM:Made w.heap.size (s * s) (rowsOf s (smT cx cy d most) s) (rowsOf s (stT a b d most) s) smv mkv w') (hb:Below w.heap.size w w') :
   OneRes w cx cy d s most (.returned (.tuple #[.agg #[.complex .f32 cx cy,.int .i64 d,.int .i64 s,smv,mkv],.bool true])) w':=by
 have hn:0 < s * s:=Nat.mul_pos h.s1 h.s1
 obtain ⟨gs,cs,rfl,-,hcs⟩:=ownsRow_form hM.S hn
 obtain ⟨gm,cm,rfl,-,hcm⟩:=ownsRow_form hM.M hn
 refine ⟨⟨cx,cy,d,s,_,_,cs,_,_,cm,true,rfl,(fun h => by cases h),fun _ => ⟨⟨cx,cy,d,s,gs,cs,gm,cm,rowsOf s (smT cx cy d most) s,rowsOf s (stT a b d most) s⟩,rfl,rfl,rfl,rfl,?_,⟨?_,h.pl,h.hx,h.hy,?_,?_⟩,d,s,a,b,rfl,rfl,h,rfl,rfl⟩⟩,hb⟩
 · simp [TRec.cells,TRec.n]
 · simpa [TRec.n] using hM
 · simpa [TRec.n] using hcs
 · simpa [TRec.n] using hcm
def MakeC (f:Nat):Prop:=∀ (cx cy:Nat) (deep size most:Int),cx < 4294967296 → cy < 4294967296 → ∀ w,Calls Vp.prog f #[.complex .f32 cx cy,.int .i64 deep,.int .i64 size,.int .i64 most] w (OneRes w cx cy deep size most)
theorem place_mk {cx cy:Nat} {deep size:Int} (hx:cx < 4294967296) (hy:cy < 4294967296) (h:placeB cx cy deep size=true):∃ (d s:Nat) (a b:Int),deep=d ∧ size=s ∧ d ≤ 10 ∧ 1 ≤ s ∧ s ≤ 8 ∧ Pt cx d a ∧ Pt cy d b ∧ a.natAbs ≤ 4 * 2 ^ d ∧ b.natAbs ≤ 4 * 2 ^ d:=by
 obtain ⟨d,s,a,b,h1,h2,h3,h4,h5,h6,h7,h8,h9⟩:=placePts h
 rw [Nat.mod_eq_of_lt hx] at h6
 rw [Nat.mod_eq_of_lt hy] at h7
 exact ⟨d,s,a,b,h1,h2,h3,h4,h5,h6,h7,h8,h9⟩
theorem rows_made {B n:Nat} {xs:List Nat} {ys:List Int} {gs gm cap:Nat} {W:World} (hS:B ≤ gs) (hM:B ≤ gm) (hs:W.heap[gs]?=some (.cells (xs.map floV).toArray 42 (0,0))) (hm:W.heap[gm]?=some (.cells (ys.map intV).toArray 3 (0,0)))
   (lx:xs.length=n) (ly:ys.length=n) (hn:n=cap) (hc:cap ≤ 64) (hx:∀ x,x ∈ xs → x < 4294967296) (hy:∀ y,y ∈ ys → -1 ≤ y ∧ y ≤ 1):Made B n xs ys (.slice (some ⟨gs,0,none⟩) cap cap) (.slice (some ⟨gm,0,none⟩) cap cap) W:=by
 subst hn
 refine ⟨⟨by simp [lx],.inr ⟨gs,n,_,rfl,hS,hs,Nat.le_refl _,by unfold maxLen; omega,by simp [lx],?_⟩⟩,⟨by simp [ly],.inr ⟨gm,n,_,rfl,hM,hm,Nat.le_refl _,by unfold maxLen; omega,by simp [ly],?_⟩⟩,lx,ly,hx,hy⟩
 · exact List.take_of_length_le (by simp [lx])
 · exact List.take_of_length_le (by simp [ly])
theorem rowsOf_mem {α:Type} {s:Nat} {f:Nat → Nat → α} {n:Nat} {x:α} (h:x ∈ rowsOf s f n):∃ i j,x=f i j:=by
 unfold rowsOf at h
 rw [List.mem_flatMap] at h
 obtain ⟨i,_,h⟩:=h
 rw [List.mem_map] at h
 obtain ⟨j,_,h⟩:=h
 exact ⟨i,j,h.symm⟩
theorem specMakeC:MakeC 6:=by
 intro cx cy deep size most hx hy w
 cases hpl:placeB cx cy deep size with
 | false =>
   refine (tileMake_no cx cy deep size most hpl w).mono ?_
   rintro e w' ⟨rfl,hb⟩
   exact one_no (fun h => by rw [mkP_place h] at hpl; cases hpl) hb
 | true =>
   obtain ⟨d,s,a,b,rfl,rfl,hd,h1,h8,px,py,ha,hb⟩:=place_mk hx hy hpl
   refine (tileMake_val cx cy d s most hd h8 hpl (cellV_ok most hd h8 (by rw [Nat.mod_eq_of_lt hx]; exact px) (by rw [Nat.mod_eq_of_lt hy]; exact py) ha hb) w).mono ?_
   have hall:=all_iff (d:=d) (by omega) h1 ha hb
   rintro e w' ⟨hbl,⟨⟨i,j,hi,hj,hno⟩,rfl⟩ | ⟨hok,smv,mkv,rfl,hM⟩⟩
   · refine one_no ?_ hbl
     rintro ⟨d',s',a',b',e1,e2,h⟩
     obtain rfl:d=d':=by omega
     obtain rfl:s=s':=by omega
     obtain rfl:=pt_inj px h.px
     obtain rfl:=pt_inj py h.py
     have:=hall.2 ⟨h.ga,h.gb⟩ i j hi hj
     have hno:cOk a b d i j=false:=hno
     rw [hno] at this
     cases this
   · have hg:=hall.1 hok
     exact one_yes ⟨hx,hy,hpl,hd,h1,h8,px,py,ha,hb,hg.1,hg.2⟩ hM hbl
theorem implMakeC:MakeC 5:=by
 intro cx cy deep size most hx hy w
 cases hpl:placeB cx cy deep size with
 | false =>
   refine (tileMakeV_no cx cy deep size most hpl w).mono ?_
   rintro e w' ⟨rfl,hb⟩
   exact one_no (fun h => by rw [mkP_place h] at hpl; cases hpl) hb
 | true =>
   obtain ⟨d,s,a,b,rfl,rfl,hd,h1,h8,px,py,ha,hb⟩:=place_mk hx hy hpl
   refine (tileMakeV_val cx cy d s most hd h8 hpl (cellV_ok most hd h8 (by rw [Nat.mod_eq_of_lt hx]; exact px) (by rw [Nat.mod_eq_of_lt hy]; exact py) ha hb) w).mono ?_
   have hall:=all_iff (d:=d) (by omega) h1 ha hb
   rintro e w' ⟨hbl,⟨⟨i,j,hi,hj,hno⟩,rfl⟩ | ⟨hok,v,rfl,⟨gS,gM,rfl,l1,l2,l3,c1,c2⟩⟩⟩
   · refine one_no ?_ hbl
     rintro ⟨d',s',a',b',e1,e2,h⟩
     obtain rfl:d=d':=by omega
     obtain rfl:s=s':=by omega
     obtain rfl:=pt_inj px h.px
     obtain rfl:=pt_inj py h.py
     have:=hall.2 ⟨h.ga,h.gb⟩ i j hi hj
     have hno:cOk a b d i j=false:=hno
     rw [hno] at this
     cases this
   · have hg:=hall.1 hok
     have hss:s * s ≤ 64:=Nat.mul_le_mul h8 h8
     have hM:=rows_made l1 l2 c1 c2 (rowsOf_len s (smT cx cy d most) s) (rowsOf_len s (stT a b d most) s) rfl hss (fun x h => by obtain ⟨i,j,rfl⟩:=rowsOf_mem h; exact smC_lt _ _ _) (fun y h => by obtain ⟨i,j,rfl⟩:=rowsOf_mem h; exact stB_bd _ _)
     exact one_yes ⟨hx,hy,hpl,hd,h1,h8,px,py,ha,hb,hg.1,hg.2⟩ hM hbl
theorem TGood.n {most:Int} {t:TRec} (h:TGood most t):∃ d s:Nat,t.deep=d ∧ t.size=s ∧ t.n=s * s ∧ 1 ≤ s ∧ s ≤ 8 ∧ d ≤ 10:=by
 obtain ⟨d,s,a,b,h1,h2,h3,-,-⟩:=h
 exact ⟨d,s,h1,h2,by unfold TRec.n; rw [h2]; simp,h3.s1,h3.s8,h3.d10⟩
theorem rowsOf_at {α:Type} (n:Nat) (f:Nat → Nat → α):∀ m i j,i < m → j < n → (rowsOf n f m)[i * n + j]?=some (f i j)
 | 0,i,j,hi,_ => by omega
 | m + 1,i,j,hi,hj => by
   rw [rowsOf_succ]
   have hl:=rowsOf_len n f m
   by_cases h:i < m
   · have h1:i * n + j < m * n:=by
       have:(i + 1) * n ≤ m * n:=Nat.mul_le_mul_right n h
       rw [Nat.add_mul,Nat.one_mul] at this
       omega
     rw [List.getElem?_append_left (by omega)]
     exact rowsOf_at n f m i j h hj
   · obtain rfl:i=m:=by omega
     rw [List.getElem?_append_right (by omega),hl,Nat.add_sub_cancel_left,List.getElem?_map,List.getElem?_range hj]
     rfl
end Go.Proofs.YthhfljldbfgpcaaGreatDoor
end

section
namespace Go.Proofs.YthhfljldbfgpcaaGreatDoor
open Go.RowKit
theorem xor_pos (a b:Nat) (ha:a < 9223372036854775808) (hb:b < 9223372036854775808):bits .xor .i64 (a:Int) (b:Int)=((a ^^^ b:Nat):Int):=by
 have hx:a ^^^ b < 2 ^ 63:=Nat.xor_lt_two_pow (by omega) (by omega)
 show IntKind.i64.wrap ((BitVec.ofInt 64 (a:Int) ^^^ BitVec.ofInt 64 (b:Int)).toNat:Int)=_
 rw [BitVec.toNat_xor,ofInt_u64 a (by omega),ofInt_u64 b (by omega)]
 simp [IntKind.wrap,IntKind.bits,IntKind.signed]
 omega
theorem xor_i64 (a b:Int) (ha:0 ≤ a) (ha2:a < 9223372036854775808) (hb:0 ≤ b) (hb2:b < 9223372036854775808):∃ x,bits .xor .i64 a b=x ∧ 0 ≤ x ∧ x < 9223372036854775808:=by
 obtain ⟨A,rfl⟩:=Int.eq_ofNat_of_zero_le ha
 obtain ⟨B,rfl⟩:=Int.eq_ofNat_of_zero_le hb
 refine ⟨_,xor_pos A B (by omega) (by omega),by omega,?_⟩
 have hx:A ^^^ B < 2 ^ 63:=Nat.xor_lt_two_pow (by omega) (by omega)
 omega
structure Only (b:Nat) (w w':World):Prop where
 os:w'.os=w.os
 tape:w'.tape=w.tape
 output:w'.output=w.output
 size:w.heap.size ≤ w'.heap.size
 block:∀ k,k < w.heap.size → k ≠ b → w'.heap[k]?=w.heap[k]?
theorem Only.refl (b:Nat) (w:World):Only b w w:=⟨rfl,rfl,rfl,Nat.le_refl _,fun _ _ _ => rfl⟩
theorem Only.trans {b:Nat} {u v w:World} (h:Only b u v) (k:Only b v w):Only b u w :=
 ⟨k.os.trans h.os,k.tape.trans h.tape,k.output.trans h.output,Nat.le_trans h.size k.size,fun i hi hne => (k.block i (Nat.lt_of_lt_of_le hi h.size) hne).trans (h.block i hi hne)⟩
theorem Only.of_below {b:Nat} {u v:World} (h:Below u.heap.size u v):Only b u v:=⟨h.os,h.tape,h.output,h.size,fun i hi _ => h.block i hi⟩
theorem Only.setCell {b:Nat} {u v:World} (h:Only b u v) (j:Nat) (x:Value):Only b u (v.setCell ⟨b,j,none⟩ x):=by
 refine h.trans ⟨rfl,rfl,rfl,by simp,fun i _ hne => Below.heap_setCell _ _ _ _ (by simpa using hne)⟩
def Rd (w0:World) (b:Nat) (p:Nat) (W:World):Prop :=
 ∃ (a:Option Addr) (c:Nat) (bs:List UInt8),Box w0 b #[.slice a bs.length c,.int .i64 p] 93 W ∧ Sl w0 a (bs.map byteV) ∧ w0.heap.size ≤ b ∧ bs.length ≤ 2000
theorem Rd.below {w0:World} {b p:Nat} {W:World} (h:Rd w0 b p W):Below w0.heap.size w0 W:=by
 obtain ⟨_,_,_,h,_⟩:=h; exact h.old
theorem Rd.step {w0:World} {b p:Nat} {W W':World} (h:Rd w0 b p W) (k:Below W.heap.size W W'):Rd w0 b p W':=by
 obtain ⟨a,c,bs,h,r⟩:=h; exact ⟨a,c,bs,h.step k,r⟩
theorem Rd.drw {w0:World} {b p:Nat} {W W':World} (h:Rd w0 b p W) (k:Drw W W'):Rd w0 b p W':=h.step (k.below _)
theorem byte_le (x:UInt8):(x.toNat:Int) ≤ 255:=by have:=x.toNat_lt; omega
set_option maxHeartbeats 1000000 in
theorem pick_any (w0:World) (b p:Nat) (k:Int) (hp:p ≤ 1099511627776) (hk:k ≤ 1099511627776) (W:World) (h:Rd w0 b p W) :
   Calls Vp.prog 46 #[.pointer (some ⟨b,0,none⟩),.int .i64 k] W fun e w' => (∃ r:Int,e=.returned (.int .i64 r) ∧ 0 ≤ r ∧ (r < k ∨ r=0)) ∧ Rd w0 b (p + 1) w' ∧ Only b W w':=by
 obtain ⟨a,c,bs,hB,hS,hb,hn⟩:=h
 have c0:=hB.cell 0 _ rfl
 have c1:=hB.cell 1 _ rfl
 have f1:=hB.frozen 1
 have hlt:=hB.lt
 obtain ⟨q,hq⟩:∃ q:Int,q=(p:Int) + 1:=⟨_,rfl⟩
 have B2:=hB.set hb 1 (.int .i64 q)
 have O2:=(Only.refl b W).setCell 1 (.int .i64 q)
 have S2:=Lib.hid (hS.step B2.old)
 have HR:Hid (∀ W',Drw (W.setCell ⟨b,1,none⟩ (.int .i64 q)) W' → Rd w0 b (p + 1) W' ∧ Only b W W'):=fun W' hd => by
   refine ⟨⟨a,c,bs,?_,hS,hb,hn⟩,O2.trans (Only.of_below (hd.below _))⟩
   rw [show ((p + 1:Nat):Int)=q by omega]
   exact B2.step (hd.below _)
 have hlt2:=B2.lt
 have d0:=B2.cell 0 _ rfl
 have d1:=B2.cell 1 _ rfl
 clear B2 O2 hS hB
 obtain ⟨n,hN⟩:∃ n,bs.length=n:=⟨_,rfl⟩
 rw [hN] at hn d0 d1
 have HN:=Lib.hid hN
 clear hN
 go_enter Vp.func46,Tryz.ntmps46
 go_upto_region 2 with fail
 rw [← hq]
 generalize W.setCell ⟨b,1,none⟩ (.int .i64 q)=W1 at *
 clear c0 c1 f1 hlt
 by_cases hk1:k < 1
 · go_wp2
   go_ret
   exact ⟨⟨0,rfl,by omega,.inr rfl⟩,HR.out _ (Drw.refl _)⟩
 by_cases hn0:n=0
 · subst hn0
   go_wp2
   go_ret
   exact ⟨⟨0,rfl,by omega,.inr rfl⟩,HR.out _ (Drw.refl _)⟩
 have hnb:((n:Int) == 0)=false:=by simpa using hn0
 by_cases hpn:q - 1 < n
 · have hpl:p < bs.length:=by rw [HN.out]; omega
   have hx:(bs.map byteV)[p]?=some (byteV (bs[p])):=by rw [List.getElem?_map,List.getElem?_eq_getElem hpl]; rfl
   obtain ⟨ab,ao,rfl,hc⟩:=S2.out.at hx
   have hle:=byte_le bs[p]
   unfold byteV at hc
   clear hx S2
   generalize bs[p]=x at *
   have hx0:(0:Int) ≤ x.toNat:=by omega
   generalize (x.toNat:Int)=y at *
   have hkb:(k == 0)=false:=by simp; omega
   obtain ⟨r,hr⟩:∃ r,y.tmod k=r:=⟨_,rfl⟩
   have r0:0 ≤ r:=by rw [← hr]; exact Int.tmod_nonneg _ (by omega)
   have r1:r < k:=by rw [← hr]; exact Int.tmod_lt_of_pos _ (by omega)
   go_wp2
   go_ret
   exact ⟨⟨r,rfl,r0,.inl r1⟩,HR.out _ (Drw.refl _)⟩
 · have hnp:(0:Int) < n:=by omega
   have hpn':decide ((p:Int) < n)=false:=by simp; omega
   have hpn2:decide (p < n)=false:=by simp; omega
   obtain ⟨i,hi⟩:∃ i,(p:Int).tmod n=i:=⟨_,rfl⟩
   obtain ⟨j,hj⟩:∃ j,((p:Int) * 7 + 3).tmod n=j:=⟨_,rfl⟩
   obtain ⟨l,hl⟩:∃ l,(p:Int).tdiv n=l:=⟨_,rfl⟩
   have i1:0 ≤ i:=by rw [← hi]; exact Int.tmod_nonneg _ (by omega)
   have i2:i < n:=by rw [← hi]; exact Int.tmod_lt_of_pos _ hnp
   have j1:0 ≤ j:=by rw [← hj]; exact Int.tmod_nonneg _ (by omega)
   have j2:j < n:=by rw [← hj]; exact Int.tmod_lt_of_pos _ hnp
   have l1:0 ≤ l:=by rw [← hl]; exact Int.tdiv_nonneg (by omega) (by omega)
   have l2:l ≤ p:=by rw [← hl,Int.tdiv_eq_ediv_of_nonneg (by omega)]; exact Int.ediv_le_self _ (by omega)
   have hx1:(bs.map byteV)[i.toNat]?=some (byteV (bs[i.toNat]'(by rw [HN.out]; omega))):=by rw [List.getElem?_map,List.getElem?_eq_getElem (by rw [HN.out]; omega)]; rfl
   have hx2:(bs.map byteV)[j.toNat]?=some (byteV (bs[j.toNat]'(by rw [HN.out]; omega))):=by rw [List.getElem?_map,List.getElem?_eq_getElem (by rw [HN.out]; omega)]; rfl
   obtain ⟨ab,ao,rfl,hc1⟩:=S2.out.at hx1
   obtain ⟨ab',ao',he,hc2⟩:=S2.out.at hx2
   obtain ⟨rfl,rfl⟩:ab=ab' ∧ ao=ao':=by injection he with he; injection he with h1 h2 _; exact ⟨h1,h2⟩
   have b1:=byte_le (bs[i.toNat]'(by rw [HN.out]; omega))
   have b2:=byte_le (bs[j.toNat]'(by rw [HN.out]; omega))
   unfold byteV at hc1 hc2
   have b3:(0:Int) ≤ ((bs[i.toNat]'(by rw [HN.out]; omega)).toNat:Int):=by omega
   have b4:(0:Int) ≤ ((bs[j.toNat]'(by rw [HN.out]; omega)).toNat:Int):=by omega
   clear hx1 hx2 he S2
   generalize ((bs[i.toNat]'(by rw [HN.out]; omega)).toNat:Int)=y1 at *
   generalize ((bs[j.toNat]'(by rw [HN.out]; omega)).toNat:Int)=y2 at *
   go_upto_region 7 with fail
   go_quiet (fail)
   obtain ⟨x,hx⟩:∃ x,x=y1 * 131 + y2 * 1117 + (p:Int) * 29 + l * 53:=⟨_,rfl⟩
   have x0:0 ≤ x:=by omega
   have x1:x < 9223372036854775808:=by omega
   rw [← hx]
   obtain ⟨u,hu⟩:∃ u,x.tdiv 64=u:=⟨_,rfl⟩
   have u0:0 ≤ u:=by rw [← hu]; exact Int.tdiv_nonneg (by omega) (by omega)
   have u1:u ≤ x:=by rw [← hu,Int.tdiv_eq_ediv_of_nonneg (by omega)]; exact Int.ediv_le_self _ (by omega)
   obtain ⟨v,hv,v0,v1⟩:=xor_i64 x u x0 x1 u0 (by omega)
   obtain ⟨r,hr⟩:∃ r,v.tmod k=r:=⟨_,rfl⟩
   have r0:0 ≤ r:=by rw [← hr]; exact Int.tmod_nonneg _ (by omega)
   have r1:r < k:=by rw [← hr]; exact Int.tmod_lt_of_pos _ (by omega)
   have hkb:(k == 0)=false:=by simp; omega
   clear hx hi hj hl hc1 hc2 d0 d1
   go_wp2
   go_ret
   exact ⟨⟨r,rfl,r0,.inl r1⟩,HR.out _ ((Drw.refl _).drewN _)⟩
theorem open_any (a:Option Addr) (c:Nat) (bs:List UInt8) (hn:bs.length ≤ 1048576) (hc:bs.length ≤ c) (w:World) (hs:Sl w a (bs.map byteV)) :
   Calls Vp.prog 18 #[.slice a bs.length c] w fun e w' => ∃ b,e=.returned (.pointer (some ⟨b,0,none⟩)) ∧ b=w.heap.size ∧ Rd w b 0 w':=by
 obtain ⟨n,hN⟩:∃ n,bs.length=n:=⟨_,rfl⟩
 by_cases h:2000 < n
 · have HR:Hid (Rd w w.heap.size 0 (w.alloc (.cells #[.slice a 2000 c,.int .i64 0] 93))):=by
     have hl:(bs.take 2000).length=2000:=by simp; omega
     refine ⟨a,c,bs.take 2000,?_,?_,Nat.le_refl _,by omega⟩
     · rw [hl]; exact Box.new w _ _
     · rcases hs with hs | ⟨b,o,ha,hs⟩
       · simp at hs; simp [hs] at hN; omega
       · refine .inr ⟨b,o,ha,fun i v hv => ?_⟩
         refine hs i v ?_
         rw [List.map_take,List.getElem?_take] at hv
         split at hv
         · exact hv
         · cases hv
   obtain ⟨ab,ao,rfl⟩:∃ ab ao,a=some ⟨ab,ao,none⟩:=by
     rcases hs with hs | ⟨b,o,ha,hs⟩
     · simp at hs; simp [hs] at hN; omega
     · exact ⟨b,o,ha⟩
   rw [hN] at hn hc ⊢
   have hc2:2000 ≤ c:=by omega
   have hc3:(2000:Int) ≤ c:=by omega
   clear hN hs
   go_enter Vp.func18,Tryz.ntmps18
   go_wp2
   go_ret
   exact ⟨_,rfl,rfl,HR.out⟩
 · have HR:Hid (Rd w w.heap.size 0 (w.alloc (.cells #[.slice a n c,.int .i64 0] 93))) :=
     ⟨a,c,bs,by rw [hN]; exact Box.new w _ _,hs,Nat.le_refl _,by omega⟩
   rw [hN]
   clear hs
   rw [hN] at hn hc
   clear hN
   go_enter Vp.func18,Tryz.ntmps18
   go_wp2
   go_ret
   exact ⟨_,rfl,rfl,HR.out⟩
end Go.Proofs.YthhfljldbfgpcaaGreatDoor
end

section
namespace Go.Proofs.YthhfljldbfgpcaaGreatDoor
open Go.RowKit
set_option maxHeartbeats 2000000 in
theorem part_any (w0:World) (b p:Nat) (hp:p ≤ 1099511627000) (W:World) (h:Rd w0 b p W) :
   Calls Vp.prog 99 #[.pointer (some ⟨b,0,none⟩)] W fun e w' => (∃ x,e=.returned (.float .f64 x) ∧ x < 18446744073709551616) ∧ (∃ p',p' ≤ p + 3 ∧ Rd w0 b p' w') ∧ Only b W w':=by
 go_enter Vp.func99,Tryz.ntmps99
 go_wp2_with fail
 refine (pick_any w0 b p 24 (by omega) (by omega) _ h).mono ?_
 rintro e w1 ⟨⟨r,rfl,r0,r1⟩,hR,hO⟩
 have HR:=Lib.hid hR
 have HO:=Lib.hid hO
 have HF:Hid (∀ x w',x < 18446744073709551616 → Drw w1 w' → (∃ y,Ending.returned (.float .f64 x)=.returned (.float .f64 y) ∧ y < 18446744073709551616) ∧ (∃ p',p' ≤ p + 3 ∧ Rd w0 b p' w') ∧ Only b W w') :=
   fun x w' hx hd => ⟨⟨x,rfl,hx⟩,⟨p + 1,by omega,hR.drw hd⟩,hO.trans (Only.of_below (hd.below _))⟩
 clear hR hO h
 by_cases h0:r=0
 · subst h0; go_wp2; go_ret; exact HF.out _ _ (by omega) (Drw.refl _)
 by_cases h1:r=1
 · subst h1
   obtain ⟨z,w2,hz,hz2,hd⟩:=Flo.arith_any (P:=Vp.prog) .mul (by simp) 68 .f64 (Op.negFloat .f64 0) 4607182418800017408 w1
   have hn:=fun w => Flo.run_neg (P:=Vp.prog) .f64 0 w
   generalize Op.negFloat .f64 0=q at *
   go_wp2; go_ret; exact HF.out _ _ hz2 hd
 by_cases h2:r=2
 · subst h2
   obtain ⟨z,w2,hz,hz2,hd⟩:=Flo.arith_any (P:=Vp.prog) .quo (by simp) 68 .f64 4607182418800017408 0 w1
   go_wp2; go_ret; exact HF.out _ _ hz2 hd
 by_cases h3:r=3
 · subst h3
   obtain ⟨z,w2,hz,hz2,hd⟩:=Flo.arith_any (P:=Vp.prog) .quo (by simp) 68 .f64 0 0 w1
   go_wp2; go_ret; exact HF.out _ _ hz2 hd
 by_cases h4:r=4
 · subst h4
   obtain ⟨z,w2,hz,hz2,hd⟩:=Flo.arith_any (P:=Vp.prog) .quo (by simp) 68 .f64 13830554455654793216 0 w1
   go_wp2; go_ret; exact HF.out _ _ hz2 hd
 by_cases h5:r=5
 · subst h5; go_wp2; go_ret; exact HF.out _ _ (by omega) (Drw.refl _)
 by_cases h6:r=6
 · subst h6; go_wp2; go_ret; exact HF.out _ _ (by omega) (Drw.refl _)
 by_cases h7:r=7
 · subst h7; go_wp2; go_ret; exact HF.out _ _ (by omega) (Drw.refl _)
 by_cases h8:r=8
 · subst h8; go_wp2; go_ret; exact HF.out _ _ (by omega) (Drw.refl _)
 by_cases h9:r=9
 · subst h9; go_wp2; go_ret; exact HF.out _ _ (by omega) (Drw.refl _)
 have g0:(r == 0)=false:=by simpa using h0
 have g1:(r == 1)=false:=by simpa using h1
 have g2:(r == 2)=false:=by simpa using h2
 have g3:(r == 3)=false:=by simpa using h3
 have g4:(r == 4)=false:=by simpa using h4
 have g5:(r == 5)=false:=by simpa using h5
 have g6:(r == 6)=false:=by simpa using h6
 have g7:(r == 7)=false:=by simpa using h7
 have g8:(r == 8)=false:=by simpa using h8
 have g9:(r == 9)=false:=by simpa using h9
 clear HF
 go_wp2_with fail
 refine (pick_any w0 b (p + 1) 65 (by omega) (by omega) _ HR.out).mono ?_
 rintro e w2 ⟨⟨x,rfl,x0,x1⟩,hR2,hO2⟩
 have HR2:=Lib.hid hR2
 have HO2:=Lib.hid (HO.out.trans hO2)
 clear hR2 hO2 HR HO
 go_wp2_with fail
 refine (pick_any w0 b (p + 1 + 1) 7 (by omega) (by omega) _ HR2.out).mono ?_
 rintro e w3 ⟨⟨y,rfl,y0,y1⟩,hR3,hO3⟩
 have HR3:=Lib.hid hR3
 have HO3:=Lib.hid (HO2.out.trans hO3)
 clear hR3 hO3 HR2 HO2
 have HF:Hid (∀ x w',x < 18446744073709551616 → Drw w3 w' → (∃ y,Ending.returned (.float .f64 x)=.returned (.float .f64 y) ∧ y < 18446744073709551616) ∧ (∃ p',p' ≤ p + 3 ∧ Rd w0 b p' w') ∧ Only b W w') :=
   fun x w' hx hd => ⟨⟨x,rfl,hx⟩,⟨p + 1 + 1 + 1,by omega,HR3.out.drw hd⟩,HO3.out.trans (Only.of_below (hd.below _))⟩
 clear HR3 HO3
 have key:=fun q => Flo.arith_any (P:=Vp.prog) .quo (by simp) 68 .f64 (floatOfInt .f64 (x - 32)) (floatOfInt .f64 q) w3
 rcases (by omega:y=0 ∨ y=1 ∨ y=2 ∨ y=3 ∨ y=4 ∨ y=5 ∨ y=6) with rfl | rfl | rfl | rfl | rfl | rfl | rfl
 · obtain ⟨z,w4,hz,hz2,hd⟩:=key 1
   clear key; go_wp2; go_ret; exact HF.out _ _ hz2 hd
 · obtain ⟨z,w4,hz,hz2,hd⟩:=key 2
   clear key; go_wp2; go_ret; exact HF.out _ _ hz2 hd
 · obtain ⟨z,w4,hz,hz2,hd⟩:=key 4
   clear key; go_wp2; go_ret; exact HF.out _ _ hz2 hd
 · obtain ⟨z,w4,hz,hz2,hd⟩:=key 8
   clear key; go_wp2; go_ret; exact HF.out _ _ hz2 hd
 · obtain ⟨z,w4,hz,hz2,hd⟩:=key 16
   clear key; go_wp2; go_ret; exact HF.out _ _ hz2 hd
 · obtain ⟨z,w4,hz,hz2,hd⟩:=key 32
   clear key; go_wp2; go_ret; exact HF.out _ _ hz2 hd
 · obtain ⟨z,w4,hz,hz2,hd⟩:=key 64
   clear key; go_wp2; go_ret; exact HF.out _ _ hz2 hd
end Go.Proofs.YthhfljldbfgpcaaGreatDoor
end

section
namespace Go.Proofs.YthhfljldbfgpcaaGreatDoor
open Go.RowKit
set_option maxHeartbeats 1000000 in
theorem wide_any (w0:World) (b p:Nat) (hp:p ≤ 1099511626000) (W:World) (h:Rd w0 b p W) :
   Calls Vp.prog 76 #[.pointer (some ⟨b,0,none⟩)] W fun e w' => (∃ x y,e=.returned (.complex .f64 x y) ∧ x < 18446744073709551616 ∧ y < 18446744073709551616) ∧ (∃ p',p' ≤ p + 6 ∧ Rd w0 b p' w') ∧ Only b W w':=by
 go_enter Vp.func76,Tryz.ntmps76
 go_wp2_with fail
 refine (part_any w0 b p (by omega) _ h).mono ?_
 rintro e w1 ⟨⟨x,rfl,hx⟩,⟨p1,hp1,hR⟩,hO⟩
 have HO:=Lib.hid hO
 clear hO h
 go_wp2_with fail
 refine (part_any w0 b p1 (by omega) _ hR).mono ?_
 rintro e w2 ⟨⟨y,rfl,hy⟩,⟨p2,hp2,hR2⟩,hO2⟩
 have HR2:=Lib.hid hR2
 have HO2:=Lib.hid (HO.out.trans hO2)
 clear hO2 hR hR2
 go_wp2
 go_ret
 exact ⟨⟨x,y,rfl,hx,hy⟩,⟨p2,by omega,HR2.out⟩,HO2.out⟩
set_option maxRecDepth 100000 in
set_option maxHeartbeats 4000000 in
theorem corner_any (w0:World) (b p d:Nat) (hd:d ≤ 4) (hp:p ≤ 1099511620000) (W:World) (h:Rd w0 b p W) :
   Calls Vp.prog 47 #[.pointer (some ⟨b,0,none⟩),.int .i64 d] W fun e w' => (∃ x y,e=.returned (.complex .f32 x y) ∧ x < 4294967296 ∧ y < 4294967296) ∧ (∃ p',p' ≤ p + 10 ∧ Rd w0 b p' w') ∧ Only b W w':=by
 obtain ⟨q,hq⟩:∃ q:Int,wrap64 (2 ^ d)=q:=⟨_,rfl⟩
 have hqb:1 ≤ q ∧ q ≤ 16:=by
   rcases (by omega:d=0 ∨ d=1 ∨ d=2 ∨ d=3 ∨ d=4) with rfl | rfl | rfl | rfl | rfl
   · have:wrap64 (2 ^ 0)=1:=by kernel_rfl
     omega
   · have:wrap64 (2 ^ 1)=2:=by kernel_rfl
     omega
   · have:wrap64 (2 ^ 2)=4:=by kernel_rfl
     omega
   · have:wrap64 (2 ^ 3)=8:=by kernel_rfl
     omega
   · have:wrap64 (2 ^ 4)=16:=by kernel_rfl
     omega
 obtain ⟨q1,q2⟩:=hqb
 obtain ⟨u,hu⟩:∃ u,(5 * q) % 251=u:=⟨_,rfl⟩
 obtain ⟨v,hv⟩:∃ v,(3 * q) % 251=v:=⟨_,rfl⟩
 have u1:0 ≤ u:=by omega
 have u2:u ≤ 251:=by omega
 have v1:0 ≤ v:=by omega
 have v2:v ≤ 251:=by omega
 go_enter Vp.func47,Tryz.ntmps47
 go_wp2_with fail
 refine (pick_any w0 b p (u + 1) (by omega) (by omega) _ h).mono ?_
 rintro e w1 ⟨⟨r,rfl,r0,r1⟩,hR,hO⟩
 obtain ⟨x1,w1',h1,_,d1⟩:=Flo.arith_any (P:=Vp.prog) .quo (by simp) 42 .f32 (floatOfInt .f32 r) (floatOfInt .f32 q) w1
 have HR:=Lib.hid (hR.drw d1)
 have HO:=Lib.hid (hO.trans (Only.of_below (d1.below _)))
 clear hR hO d1 h
 go_wp2_with fail
 refine (pick_any w0 b (p + 1) (v + 1) (by omega) (by omega) _ HR.out).mono ?_
 rintro e w2 ⟨⟨r',rfl,r0',r1'⟩,hR,hO⟩
 obtain ⟨x2,w2',h2,_,d2⟩:=Flo.arith_any (P:=Vp.prog) .quo (by simp) 42 .f32 (floatOfInt .f32 r') (floatOfInt .f32 q) w2
 have HR2:=Lib.hid (hR.drw d2)
 have HO2:=Lib.hid (HO.out.trans (hO.trans (Only.of_below (d2.below _))))
 clear hR hO d2 h1 HR HO
 go_wp2_with fail
 refine (pick_any w0 b (p + 1 + 1) 20 (by omega) (by omega) _ HR2.out).mono ?_
 rintro e w3 ⟨⟨r3,rfl,r30,r31⟩,hR,hO⟩
 have HR3:=Lib.hid hR
 have HO3:=Lib.hid (HO2.out.trans hO)
 clear hR hO h2 HR2 HO2 hq hu hv
 by_cases h3:r3=0
 · subst h3
   go_wp2_with fail
   refine (wide_any w0 b (p + 1 + 1 + 1) (by omega) _ HR3.out).mono ?_
   rintro e w4 ⟨⟨x,y,rfl,hx,hy⟩,⟨p4,hp4,hR⟩,hO⟩
   obtain ⟨a,c,w5,h5,ha,hc,d5⟩:=Flo.cconvert_any (P:=Vp.prog) 39 23 .f64 .f32 (by kernel_rfl) (Vp.und Tryz.underlying23) x y hx hy w4
   have HR5:=Lib.hid (hR.drw d5)
   have HO5:=Lib.hid (HO3.out.trans (hO.trans (Only.of_below (d5.below _))))
   clear hR hO d5 hx hy HR3 HO3
   go_wp2
   go_ret
   exact ⟨⟨a,c,rfl,ha,hc⟩,⟨p4,by omega,HR5.out⟩,HO5.out⟩
 · have h3':(r3 == 0)=false:=by simpa using h3
   obtain ⟨x3,w4,h4,hx3,d4⟩:=Flo.arith_any (P:=Vp.prog) .sub (by simp) 42 .f32 x1 1073741824 w3
   obtain ⟨x4,w5,h5,_,d5⟩:=Flo.arith_any (P:=Vp.prog) .sub (by simp) 42 .f32 x2 1069547520 w4
   have HR5:=Lib.hid (HR3.out.drw (d4.trans d5))
   have HO5:=Lib.hid (HO3.out.trans (Only.of_below ((d4.trans d5).below _)))
   clear d4 d5 HR3 HO3
   go_wp2_with fail
   refine (pick_any w0 b (p + 1 + 1 + 1) 2 (by omega) (by omega) _ HR5.out).mono ?_
   rintro e w6 ⟨⟨r6,rfl,r60,r61⟩,hR,hO⟩
   obtain ⟨x5,w7,h7,_,d7⟩:=Flo.arith_any (P:=Vp.prog) .mul (by simp) 42 .f32 1056964608 (floatOfInt .f32 r6) w6
   obtain ⟨x6,w8,h8,hx6,d8⟩:=Flo.arith_any (P:=Vp.prog) .add (by simp) 42 .f32 x4 x5 w7
   have HR8:=Lib.hid (hR.drw (d7.trans d8))
   have HO8:=Lib.hid (HO5.out.trans (hO.trans (Only.of_below ((d7.trans d8).below _))))
   clear hR hO d7 d8 HR5 HO5 h4 h5
   go_wp2
   go_ret
   exact ⟨⟨x3,x6,rfl,hx3,hx6⟩,⟨p + 1 + 1 + 1 + 1,by omega,HR8.out⟩,HO8.out⟩
set_option maxRecDepth 100000 in
set_option maxHeartbeats 4000000 in
theorem place_any (w0:World) (b p:Nat) (hp:p ≤ 1099511610000) (W:World) (h:Rd w0 b p W) :
   Calls Vp.prog 17 #[.pointer (some ⟨b,0,none⟩)] W fun e w' => (∃ (x y:Nat) (d s m:Int),e=.returned (.tuple #[.complex .f32 x y,.int .i64 d,.int .i64 s,.int .i64 m]) ∧ x < 4294967296 ∧ y < 4294967296 ∧ 1 ≤ m ∧ m ≤ 31) ∧ (∃ p',p' ≤ p + 20 ∧ Rd w0 b p' w') ∧ Only b W w':=by
 go_enter Vp.func17,Tryz.ntmps17
 go_wp2_with fail
 refine (pick_any w0 b p 5 (by omega) (by omega) _ h).mono ?_
 rintro e w1 ⟨⟨r,rfl,r0,r1⟩,hR,hO⟩
 have HO:=Lib.hid hO
 obtain ⟨d,rfl⟩:=Int.eq_ofNat_of_zero_le r0
 have hd:d ≤ 4:=by omega
 clear h hO r0 r1
 go_wp2_with fail
 refine (corner_any w0 b (p + 1) d hd (by omega) _ hR).mono ?_
 rintro e w2 ⟨⟨x,y,rfl,hx,hy⟩,⟨p2,hp2,hR2⟩,hO⟩
 have HO2:=Lib.hid (HO.out.trans hO)
 clear hO HO hR
 go_wp2_with fail
 refine (pick_any w0 b p2 4 (by omega) (by omega) _ hR2).mono ?_
 rintro e w3 ⟨⟨s,rfl,s0,s1⟩,hR3,hO⟩
 have HO3:=Lib.hid (HO2.out.trans hO)
 clear hO HO2 hR2
 go_wp2_with fail
 refine (pick_any w0 b (p2 + 1) 24 (by omega) (by omega) _ hR3).mono ?_
 rintro e w4 ⟨⟨k,rfl,k0,k1⟩,hR4,hO⟩
 have HO4:=Lib.hid (HO3.out.trans hO)
 have HK:=Lib.hid (pick_any w0 b (p2 + 1 + 1) 30 (by omega) (by omega) w4 hR4)
 clear hO HO3 hR3 hR4
 have fin:∀ (x y:Nat) (d s m:Int) w',x < 4294967296 → y < 4294967296 → 0 ≤ m → (m < 30 ∨ m=0) → Rd w0 b (p2 + 1 + 1 + 1) w' → Only b w4 w' → (∃ (x' y':Nat) (d' s' m':Int),Ending.returned (.tuple #[.complex .f32 x y,.int .i64 d,.int .i64 s,.int .i64 (1 + m)])=.returned (.tuple #[.complex .f32 x' y',.int .i64 d',.int .i64 s',.int .i64 m']) ∧ x' < 4294967296 ∧ y' < 4294967296 ∧ 1 ≤ m' ∧ m' ≤ 31) ∧ (∃ p',p' ≤ p + 20 ∧ Rd w0 b p' w') ∧ Only b W w' :=
   fun x y d s m w' h1 h2 h3 h4 h5 h6 => ⟨⟨x,y,d,s,1 + m,rfl,h1,h2,by omega,by omega⟩,⟨_,by omega,h5⟩,HO4.out.trans h6⟩
 have HF:=Lib.hid fin
 clear fin
 by_cases c0:k=0
 · subst c0
   go_wp2_with fail
   refine HK.out.mono ?_
   rintro e w5 ⟨⟨m,rfl,m0,m1⟩,hR5,hO⟩
   have H5:=Lib.hid (And.intro hR5 hO)
   clear hR5 hO
   go_wp2
   exact bodyPost_ret (v:=.tuple #[.complex .f32 x y,.int .i64 d,.int .i64 9,.int .i64 (1 + m)]) (by simp [results,Tryz.f17,go_sem]) rfl (HF.out _ _ _ _ _ _ hx hy m0 m1 H5.out.1 H5.out.2)
 by_cases c1:k=1
 · subst c1
   go_wp2_with fail
   refine HK.out.mono ?_
   rintro e w5 ⟨⟨m,rfl,m0,m1⟩,hR5,hO⟩
   have H5:=Lib.hid (And.intro hR5 hO)
   clear hR5 hO
   go_wp2
   exact bodyPost_ret (v:=.tuple #[.complex .f32 x y,.int .i64 11,.int .i64 (1 + s),.int .i64 (1 + m)]) (by simp [results,Tryz.f17,go_sem]) rfl (HF.out _ _ _ _ _ _ hx hy m0 m1 H5.out.1 H5.out.2)
 by_cases c2:k=2
 · subst c2
   go_wp2_with fail
   refine HK.out.mono ?_
   rintro e w5 ⟨⟨m,rfl,m0,m1⟩,hR5,hO⟩
   have H5:=Lib.hid (And.intro hR5 hO)
   clear hR5 hO
   go_wp2
   exact bodyPost_ret (v:=.tuple #[.complex .f32 1082130432 1082130432,.int .i64 d,.int .i64 (1 + s),.int .i64 (1 + m)]) (by simp [results,Tryz.f17,go_sem]) rfl (HF.out _ _ _ _ _ _ (by omega) (by omega) m0 m1 H5.out.1 H5.out.2)
 have g0:(k == 0)=false:=by simpa using c0
 have g1:(k == 1)=false:=by simpa using c1
 have g2:(k == 2)=false:=by simpa using c2
 go_wp2_with fail
 refine HK.out.mono ?_
 rintro e w5 ⟨⟨m,rfl,m0,m1⟩,hR5,hO⟩
 have H5:=Lib.hid (And.intro hR5 hO)
 clear hR5 hO
 go_wp2
 exact bodyPost_ret (v:=.tuple #[.complex .f32 x y,.int .i64 d,.int .i64 (1 + s),.int .i64 (1 + m)]) (by simp [results,Tryz.f17,go_sem]) rfl (HF.out _ _ _ _ _ _ hx hy m0 m1 H5.out.1 H5.out.2)
end Go.Proofs.YthhfljldbfgpcaaGreatDoor
end

section
namespace Go.Proofs.YthhfljldbfgpcaaGreatDoor
open Go.RowKit
attribute [local go_sem] run_store_float run_store_complex
theorem Sl.far {W:World} {a:Option Addr} {xs:List Value} (h:Sl W a xs) {p:Addr} (hne:∀ g o s,a=some ⟨g,o,s⟩ → g ≠ p.block) (v:Value):Sl (W.setCell p v) a xs:=by
 rcases h with h | ⟨b',off,hb,h⟩
 · exact .inl h
 · refine .inr ⟨b',off,hb,fun i u hu => ?_⟩
   rw [← h i u hu]
   exact World.cell?_of_block (Below.heap_setCell _ _ _ _ (by simpa using (hne _ _ _ hb)))
structure TileV (B:Nat) (a1:Option Addr) (c1:Nat) (a2:Option Addr) (c2 cx cy:Nat) (deep size:Int) (xs:List Nat) (ys:List Int) (w':World):Prop where
 s1:Sl w' a1 (xs.map floV)
 s2:Sl w' a2 (ys.map intV)
 k1:xs.length ≤ c1
 k2:ys.length ≤ c2
 n1:∀ g o s,a1=some ⟨g,o,s⟩ → B ≤ g
 n2:∀ g o s,a2=some ⟨g,o,s⟩ → B ≤ g
 hx:∀ x,x ∈ xs → x < 4294967296
 hy:∀ y,y ∈ ys → -1 ≤ y ∧ y ≤ 2
 bx:cx < 4294967296
 by1:cy < 4294967296
 pl:placeB cx cy deep size=true
 ly:ys.length=size.toNat * size.toNat
 lx:xs.length=ys.length ∨ xs.length + 1=ys.length
theorem TileV.step {B:Nat} {a1:Option Addr} {c1:Nat} {a2:Option Addr} {c2 cx cy:Nat} {deep size:Int} {xs:List Nat} {ys:List Int} {w w':World} (h:TileV B a1 c1 a2 c2 cx cy deep size xs ys w) (k:Below w.heap.size w w'):TileV B a1 c1 a2 c2 cx cy deep size xs ys w' :=
 ⟨h.s1.step k,h.s2.step k,h.k1,h.k2,h.n1,h.n2,h.hx,h.hy,h.bx,h.by1,h.pl,h.ly,h.lx⟩
theorem TileV.lim {B:Nat} {a1:Option Addr} {c1:Nat} {a2:Option Addr} {c2 cx cy:Nat} {deep size:Int} {xs:List Nat} {ys:List Int} {w:World} (h:TileV B a1 c1 a2 c2 cx cy deep size xs ys w):1 ≤ size ∧ size ≤ 8 ∧ 0 ≤ deep ∧ deep ≤ 10 ∧ 1 ≤ ys.length ∧ ys.length ≤ 64 ∧ xs.length ≤ 64 ∧ (ys.length:Int)=size * size:=by
 obtain ⟨h1,h2,h3,h4⟩:=placeB_bd h.pl
 obtain ⟨s,rfl⟩:=Int.eq_ofNat_of_zero_le (show 0 ≤ size by omega)
 have hl:=h.ly
 rw [Int.toNat_natCast] at hl
 have h5:s * s ≤ 8 * 8:=Nat.mul_le_mul (by omega) (by omega)
 have h6:1 * 1 ≤ s * s:=Nat.mul_le_mul (by omega) (by omega)
 have h7:=h.lx
 refine ⟨h3,h4,h1,h2,by omega,by omega,by omega,?_⟩
 rw [hl]; simp
end Go.Proofs.YthhfljldbfgpcaaGreatDoor
end

section
namespace Go.Proofs.YthhfljldbfgpcaaGreatDoor
open Go.RowKit
set_option maxHeartbeats 1000000 in
theorem sameInts_same (a b:Option Addr) (ca cb:Nat) (xs:List Int) (hn:xs.length ≤ 1048576) (w:World) (ha:Sl w a (xs.map intV)) (hb:Sl w b (xs.map intV)) :
   Calls Vp.prog 28 #[.slice a xs.length ca,.slice b xs.length cb] w fun e w' => e=.returned (.bool true) ∧ Drw w w':=by
 obtain ⟨n,hnn⟩:∃ n,xs.length=n:=⟨_,rfl⟩
 have HX:Hid (∀ k,k < n → ∃ x,(xs.map intV)[k]?=some (.int .i64 x)):=fun k h => ⟨xs[k]'(by omega),by rw [List.getElem?_map,List.getElem?_eq_getElem (by omega)]; rfl⟩
 have HA:=Lib.hid ha
 have HB:=Lib.hid hb
 rw [hnn] at hn ⊢
 clear ha hb hnn
 go_enter Vp.func28,Tryz.ntmps28
 go_wp2
 go_loopw [5] (fun i wr => ∃ k:Nat,k ≤ n ∧ i=.int .i64 k ∧ Hid (Drw w wr)) (fun i _ => (n - intOf i).toNat)
 case atStart => exact ⟨0,by omega,rfl,Drw.refl _⟩
 case round =>
   obtain ⟨k,hk,rfl,HD⟩:=hrel
   by_cases hlt:k < n
   · obtain ⟨x,hx⟩:=HX.out k hlt
     obtain ⟨b1,o1,rfl,hc1⟩:=(HA.out.drw HD.out).at hx
     obtain ⟨b2,o2,rfl,hc2⟩:=(HB.out.drw HD.out).at hx
     clear hx
     go_upto_region 6 with fail
     go_quiet (fail)
     have HD2:=Lib.hid (HD.out.drewN nq)
     go_wp2
     go_roundw
     case rel => exact ⟨k + 1,by omega,by go_num,HD2⟩
     case measure => simp [intOf]; omega
   · go_wp2
     go_ret
     exact ⟨rfl,HD.out⟩
end Go.Proofs.YthhfljldbfgpcaaGreatDoor
end
