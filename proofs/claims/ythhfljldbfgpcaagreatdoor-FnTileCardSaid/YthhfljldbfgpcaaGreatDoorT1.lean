/- Merged texts: Base, FloT, Flo. -/
import Derived.WalkKit
import Derived.WalkSpells
import Derived.WalkLawsBesides
import Derived.Lib.Hide
import Derived.Deep.QuietTactic
import Derived.BigQuiet
import Derived.Laws.FloatArith
import Derived.Laws.ComplexArith
set_option linter.all false
section
namespace Go.Proofs.YthhfljldbfgpcaaGreatDoor
open Go.RowKit
def Drw (w w':World):Prop:=∃ n,w'=w.drewN n
theorem Drw.refl (w:World):Drw w w:=⟨0,rfl⟩
theorem Drw.trans {a b c:World} (h:Drw a b) (k:Drw b c):Drw a c:=by
 obtain ⟨n,rfl⟩:=h
 obtain ⟨m,rfl⟩:=k
 exact ⟨n + m,by rw [World.drewN_drewN]⟩
theorem Drw.drewN {a b:World} (h:Drw a b) (n:Nat):Drw a (b.drewN n):=h.trans ⟨n,rfl⟩
theorem Drw.drew {a b:World} (h:Drw a b):Drw a b.drew:=h.trans ⟨1,rfl⟩
theorem Drw.of_eq {a b:World} (h:a=b):Drw a b:=h ▸ Drw.refl a
theorem Drw.below {a b:World} (h:Drw a b) (B:Nat):Below B a b:=by
 obtain ⟨n,rfl⟩:=h
 exact ⟨rfl,rfl,rfl,Nat.le_refl _,fun _ _ => rfl⟩
theorem Drw.heap {a b:World} (h:Drw a b):b.heap=a.heap:=by obtain ⟨n,rfl⟩:=h; rfl
theorem quiet_drw {P:Program} {f:FuncId} {args:Array Value} {w:World} {n:Nat} {v:Value}
   (h:Calls P f args (w.drewN n) fun e w' => e=.returned v ∧ Drw (w.drewN n) w'):Calls P f args (w.drewN n) fun e w'' => e=.returned v ∧ ∃ m,w''=w.drewN m :=
 h.mono fun _ _ ⟨he,m,hm⟩ => ⟨he,n + m,by rw [hm,World.drewN_drewN]⟩
structure Box (w0:World) (b:Nat) (C:Array Value) (T:TypeId) (W:World):Prop where
 blk:W.heap[b]?=some (.cells C T (0,0))
 old:Below w0.heap.size w0 W
theorem Box.new (w:World) (C:Array Value) (T:TypeId):Box w w.heap.size C T (w.alloc (.cells C T)) :=
 ⟨(MapKept.heap_alloc w _).1,(Below.refl _ _).alloc (Nat.le_refl _) _⟩
theorem Box.lt {w0 W:World} {b:Nat} {C:Array Value} {T:TypeId} (h:Box w0 b C T W):b < W.heap.size:=(Array.getElem?_eq_some_iff.1 h.blk).1
theorem Box.step {w0 W W':World} {b:Nat} {C:Array Value} {T:TypeId} (h:Box w0 b C T W) (k:Below W.heap.size W W'):Box w0 b C T W' :=
 ⟨(k.block b h.lt).trans h.blk,h.old.trans (k.mono h.old.size)⟩
theorem Box.alloc {w0 W:World} {b:Nat} {C:Array Value} {T:TypeId} (h:Box w0 b C T W) (o:Obj):Box w0 b C T (W.alloc o) :=
 h.step ((Below.refl _ _).alloc (Nat.le_refl _) _)
theorem Box.cell {w0 W:World} {b:Nat} {C:Array Value} {T:TypeId} (h:Box w0 b C T W) (j:Nat) (v:Value) (hv:C[j]?=some v):W.cell? ⟨b,j,none⟩=some v:=by
 simp [World.cell?,h.blk,hv]
theorem Box.frozen {w0 W:World} {b:Nat} {C:Array Value} {T:TypeId} (h:Box w0 b C T W) (j:Nat):W.frozen? ⟨b,j,none⟩=false:=by
 simp [World.frozen?,h.blk]
theorem ret_int {k:IntKind} {a b:Int} (h:a=b):Ending.returned (.int k a)=.returned (.int k b):=by rw [h]
theorem ret_bool {a b:Bool} (h:a=b):Ending.returned (.bool a)=.returned (.bool b):=by rw [h]
end Go.Proofs.YthhfljldbfgpcaaGreatDoor
end

section
namespace Go.Proofs.YthhfljldbfgpcaaGreatDoor
namespace Flo
open Ieee
def re (f:Format) (r:Nat):Nat:=r / f.binade - 1
def rm (f:Format) (r:Nat):Nat:=r - re f r * f.binade
def rv (f:Format) (r:Nat):Nat:=rm f r * 2 ^ re f r
theorem binade_pos (f:Format):0 < f.binade:=Nat.two_pow_pos _
theorem re_le (f:Format) (r:Nat):re f r * f.binade ≤ r:=by
 unfold re
 calc (r / f.binade - 1) * f.binade ≤ r / f.binade * f.binade:=Nat.mul_le_mul_right _ (Nat.sub_le _ _)
   _ ≤ r:=Nat.div_mul_le_self _ _
theorem rung_eq (f:Format) (r:Nat):r=re f r * f.binade + rm f r:=by
 have:=re_le f r
 unfold rm; omega
theorem rm_lt (f:Format) (r:Nat):rm f r < 2 * f.binade:=by
 unfold rm re
 have hp:=binade_pos f
 have h1:=Nat.div_add_mod r f.binade
 have h2:=Nat.mod_lt r hp
 have h3:f.binade * (r / f.binade)=(r / f.binade) * f.binade:=Nat.mul_comm _ _
 cases hq:r / f.binade with
 | zero => rw [hq] at h1; simp at h1; simp; omega
 | succ q =>
   rw [hq] at h1 h3
   simp only [Nat.add_sub_cancel]
   rw [Nat.succ_mul] at h3
   omega
theorem rm_ge (f:Format) (r:Nat) (h:0 < re f r):f.binade ≤ rm f r:=by
 have hp:=binade_pos f
 unfold rm
 unfold re at h ⊢
 have h1:=Nat.div_add_mod r f.binade
 have h3:f.binade * (r / f.binade)=(r / f.binade) * f.binade:=Nat.mul_comm _ _
 cases hq:r / f.binade with
 | zero => rw [hq] at h; omega
 | succ q =>
   rw [hq] at h1 h3
   simp only [Nat.add_sub_cancel]
   rw [Nat.succ_mul] at h3
   omega
theorem cut_le {neg:Bool} {n drop m:Nat} (h:n ≤ m * 2 ^ drop):Toward.even.cut neg n drop ≤ m:=by
 unfold Toward.cut
 simp only
 by_cases hd:drop ≤ n.log2 + 2
 · rw [Nat.min_eq_left hd,Nat.one_shiftLeft]
   have hp:0 < 2 ^ drop:=Nat.two_pow_pos _
   have h1:=Nat.div_add_mod n (2 ^ drop)
   have h2:=Nat.mod_lt n hp
   have hq:n / 2 ^ drop ≤ m:=Nat.div_le_of_le_mul (by rw [Nat.mul_comm]; exact h)
   by_cases he:n / 2 ^ drop=m
   · rw [he] at h1
     have h0:n % 2 ^ drop=0:=by rw [Nat.mul_comm] at h1; omega
     simp only [h0]
     have hf:(decide (2 ^ drop < 2 * 0) || (2 ^ drop == 2 * 0 && n / 2 ^ drop % 2 == 1))=false:=by
       simp
     rw [hf]; simpa using hq
   · cases (decide (2 ^ drop < 2 * (n % 2 ^ drop)) || (2 ^ drop == 2 * (n % 2 ^ drop) && n / 2 ^ drop % 2 == 1)) <;> simp <;> omega
 · have hd':n.log2 + 2 ≤ drop:=by omega
   rw [Nat.min_eq_right hd',Nat.one_shiftLeft]
   have hlt:n < 2 ^ (n.log2 + 1):=Nat.lt_log2_self
   have h2:2 ^ (n.log2 + 2)=2 * 2 ^ (n.log2 + 1):=by rw [Nat.pow_succ]; omega
   have hm:n % 2 ^ (n.log2 + 2)=n:=Nat.mod_eq_of_lt (by omega)
   have hq:n / 2 ^ (n.log2 + 2)=0:=Nat.div_eq_of_lt (by omega)
   rw [hm,hq]
   have hf:(decide (2 ^ (n.log2 + 2) < 2 * n) || (2 ^ (n.log2 + 2) == 2 * n && 0 % 2 == 1))=false:=by
     simp; omega
   rw [hf]; simp
theorem cut_ge {neg:Bool} {n drop m:Nat} (h:m * 2 ^ drop ≤ n):m ≤ Toward.even.cut neg n drop:=by
 unfold Toward.cut
 simp only
 by_cases hd:drop ≤ n.log2 + 2
 · rw [Nat.min_eq_left hd,Nat.one_shiftLeft]
   have hp:0 < 2 ^ drop:=Nat.two_pow_pos _
   have hq:m ≤ n / 2 ^ drop:=(Nat.le_div_iff_mul_le hp).2 h
   omega
 · have hlt:n < 2 ^ (n.log2 + 1):=Nat.lt_log2_self
   have hpp:2 ^ (n.log2 + 1) ≤ 2 ^ drop:=Nat.pow_le_pow_right (by omega) (by omega)
   have:m=0:=by
     cases m with
     | zero => rfl
     | succ m => rw [Nat.succ_mul] at h; omega
   rw [this]; exact Nat.zero_le _
def lastUp (f:Format) (mag:Nat) (place:Int):Int:=max (place + mag.log2 - f.fractionBits) f.leastPlace
def rnd (f:Format) (neg:Bool) (mag:Nat) (place:Int):Nat :=
 if mag=0 then 0 else min ((lastUp f mag place - f.leastPlace).toNat * f.binade + Toward.even.cut neg (mag <<< (place - lastUp f mag place).toNat) (lastUp f mag place - place).toNat) f.infRung
theorem nearest_eq (f:Format) (neg:Bool) (mag:Nat) (place:Int):f.nearest neg mag place=f.word neg (rnd f neg mag place):=by
 unfold Format.nearest rnd lastUp
 split <;> rfl
theorem rnd_le_inf (f:Format) (neg:Bool) (mag:Nat) (place:Int):rnd f neg mag place ≤ f.infRung:=by
 unfold rnd; split
 · omega
 · exact Nat.min_le_right _ _
theorem digits_lt (f:Format) (mag:Nat) (place:Int):mag * 2 ^ (place - lastUp f mag place).toNat < 2 * f.binade * 2 ^ (lastUp f mag place - place).toNat:=by
 have hl:mag < 2 ^ (mag.log2 + 1):=Nat.lt_log2_self
 unfold lastUp
 generalize hL:max (place + mag.log2 - f.fractionBits) f.leastPlace=L
 have h1:place + mag.log2 - f.fractionBits ≤ L:=by omega
 unfold Format.binade
 rcases Int.le_total place L with h | h
 · have e1:(place - L).toNat=0:=by omega
   rw [e1]
   have:mag.log2 + 1 ≤ 1 + f.fractionBits + (L - place).toNat:=by omega
   calc mag * 2 ^ 0=mag:=by simp
     _ < 2 ^ (mag.log2 + 1):=hl
     _ ≤ 2 ^ (1 + f.fractionBits + (L - place).toNat):=Nat.pow_le_pow_right (by omega) this
     _=2 * 2 ^ f.fractionBits * 2 ^ (L - place).toNat:=by rw [Nat.pow_add,Nat.pow_add,Nat.pow_one]
 · have e1:(L - place).toNat=0:=by omega
   rw [e1]
   have:mag.log2 + 1 + (place - L).toNat ≤ 1 + f.fractionBits:=by omega
   calc mag * 2 ^ (place - L).toNat < 2 ^ (mag.log2 + 1) * 2 ^ (place - L).toNat:=Nat.mul_lt_mul_of_pos_right hl (Nat.two_pow_pos _)
     _=2 ^ (mag.log2 + 1 + (place - L).toNat):=by rw [← Nat.pow_add]
     _ ≤ 2 ^ (1 + f.fractionBits):=Nat.pow_le_pow_right (by omega) this
     _=2 * 2 ^ f.fractionBits * 2 ^ 0:=by rw [Nat.pow_add]; simp
theorem digits_ge (f:Format) (mag:Nat) (place:Int) (h0:mag ≠ 0) (hl:f.leastPlace < lastUp f mag place):f.binade * 2 ^ (lastUp f mag place - place).toNat ≤ mag * 2 ^ (place - lastUp f mag place).toNat:=by
 have hg:2 ^ mag.log2 ≤ mag:=Nat.log2_self_le h0
 unfold lastUp at hl ⊢
 generalize hL:max (place + mag.log2 - f.fractionBits) f.leastPlace=L at *
 have h1:place + mag.log2 - f.fractionBits=L:=by omega
 unfold Format.binade
 rcases Int.le_total place L with h | h
 · have e1:(place - L).toNat=0:=by omega
   rw [e1]
   have:f.fractionBits + (L - place).toNat=mag.log2:=by omega
   calc 2 ^ f.fractionBits * 2 ^ (L - place).toNat=2 ^ mag.log2:=by rw [← Nat.pow_add,this]
     _ ≤ mag * 2 ^ 0:=by simpa using hg
 · have e1:(L - place).toNat=0:=by omega
   rw [e1]
   have:mag.log2 + (place - L).toNat=f.fractionBits:=by omega
   calc 2 ^ f.fractionBits * 2 ^ 0=2 ^ mag.log2 * 2 ^ (place - L).toNat:=by rw [← Nat.pow_add,← Nat.pow_add,this]; simp
     _ ≤ mag * 2 ^ (place - L).toNat:=Nat.mul_le_mul_right _ hg
theorem rnd_le {f:Format} {neg:Bool} {mag:Nat} {place:Int} {r a b:Nat} (hp:place - f.leastPlace=(a:Int) - b) (h:mag * 2 ^ a ≤ rv f r * 2 ^ b):rnd f neg mag place ≤ r:=by
 unfold rnd
 split
 · omega
 · rename_i h0
   refine Nat.le_trans (Nat.min_le_left _ _) ?_
   have hd:=digits_lt f mag place
   have hge:=digits_ge f mag place h0
   have hlast:f.leastPlace ≤ lastUp f mag place:=by unfold lastUp; omega
   generalize lastUp f mag place=L at *
   obtain ⟨t,ht⟩:∃ t:Nat,(t:Int)=L - f.leastPlace:=⟨(L - f.leastPlace).toNat,by omega⟩
   have et:(L - f.leastPlace).toNat=t:=by omega
   rw [et,Nat.shiftLeft_eq]
   
   obtain ⟨u,hu⟩:∃ u:Nat,(place - L).toNat=u:=⟨_,rfl⟩
   obtain ⟨v,hv⟩:∃ v:Nat,(L - place).toNat=v:=⟨_,rfl⟩
   rw [hu,hv] at hd hge ⊢
   have hk:a + v=b + t + u:=by omega
   
   have hx:mag * 2 ^ u * 2 ^ t ≤ rv f r * 2 ^ v:=by
     have h2:mag * 2 ^ a * 2 ^ v ≤ rv f r * 2 ^ b * 2 ^ v:=Nat.mul_le_mul_right _ h
     have e1:mag * 2 ^ a * 2 ^ v=mag * 2 ^ u * 2 ^ t * 2 ^ b:=by
       rw [Nat.mul_assoc,← Nat.pow_add,hk,Nat.pow_add,Nat.pow_add]
       simp only [Nat.mul_assoc,Nat.mul_comm,Nat.mul_left_comm]
     have e2:rv f r * 2 ^ b * 2 ^ v=rv f r * 2 ^ v * 2 ^ b:=Nat.mul_right_comm _ _ _
     rw [e1,e2] at h2
     exact Nat.le_of_mul_le_mul_right h2 (Nat.two_pow_pos _)
   have hrv:rv f r=rm f r * 2 ^ re f r:=rfl
   have hreq:=rung_eq f r
   have hbp:=binade_pos f
   rcases Nat.lt_trichotomy (re f r) t with hlt | heq | hgt
   · 
     exfalso
     have h3:=hge (by omega)
     have h4:=rm_lt f r
     have h5:rv f r < f.binade * 2 ^ t:=by
       rw [hrv]
       calc rm f r * 2 ^ re f r < 2 * f.binade * 2 ^ re f r:=Nat.mul_lt_mul_of_pos_right h4 (Nat.two_pow_pos _)
         _=f.binade * 2 ^ (re f r + 1):=by rw [Nat.pow_succ]; simp only [Nat.mul_assoc,Nat.mul_comm,Nat.mul_left_comm]
         _ ≤ f.binade * 2 ^ t:=Nat.mul_le_mul_left _ (Nat.pow_le_pow_right (by omega) hlt)
     have h6:f.binade * 2 ^ v * 2 ^ t ≤ mag * 2 ^ u * 2 ^ t:=Nat.mul_le_mul_right _ h3
     have h7:rv f r * 2 ^ v < f.binade * 2 ^ t * 2 ^ v:=Nat.mul_lt_mul_of_pos_right h5 (Nat.two_pow_pos _)
     have h8:f.binade * 2 ^ t * 2 ^ v=f.binade * 2 ^ v * 2 ^ t:=Nat.mul_right_comm _ _ _
     omega
   · 
     rw [heq] at hrv hreq
     have h9:mag * 2 ^ u ≤ rm f r * 2 ^ v:=by
       have e3:rm f r * 2 ^ t * 2 ^ v=rm f r * 2 ^ v * 2 ^ t:=Nat.mul_right_comm _ _ _
       rw [hrv,e3] at hx
       exact Nat.le_of_mul_le_mul_right hx (Nat.two_pow_pos _)
     have:=cut_le (neg:=neg) h9
     omega
   · have h4:=rm_ge f r (by omega)
     have h9:mag * 2 ^ u ≤ 2 * f.binade * 2 ^ v:=Nat.le_of_lt hd
     have h10:=cut_le (neg:=neg) h9
     have h11:(t + 1) * f.binade ≤ re f r * f.binade:=Nat.mul_le_mul_right _ hgt
     rw [Nat.succ_mul] at h11
     omega
theorem rnd_ge {f:Format} {neg:Bool} {mag:Nat} {place:Int} {r a b:Nat} (hr:r ≤ f.infRung) (hp:place - f.leastPlace=(a:Int) - b) (h:rv f r * 2 ^ b ≤ mag * 2 ^ a):r ≤ rnd f neg mag place:=by
 unfold rnd
 have hrv:rv f r=rm f r * 2 ^ re f r:=rfl
 have hreq:=rung_eq f r
 have hbp:=binade_pos f
 split
 · rename_i h0
   subst h0
   have:rm f r * 2 ^ re f r * 2 ^ b=0:=by rw [hrv] at h; omega
   have h1:rm f r=0:=by
     rcases Nat.mul_eq_zero.1 this with h | h
     · rcases Nat.mul_eq_zero.1 h with h | h
       · exact h
       · exact absurd h (Nat.ne_of_gt (Nat.two_pow_pos _))
     · exact absurd h (Nat.ne_of_gt (Nat.two_pow_pos _))
   have h2:re f r=0:=by
     rcases Nat.eq_zero_or_pos (re f r) with h | h
     · exact h
     · have:=rm_ge f r h; omega
   rw [h1,h2] at hreq
   omega
 · rename_i h0
   refine Nat.le_min.2 ⟨?_,hr⟩
   have hd:=digits_lt f mag place
   have hge:=digits_ge f mag place h0
   have hlast:f.leastPlace ≤ lastUp f mag place:=by unfold lastUp; omega
   generalize lastUp f mag place=L at *
   obtain ⟨t,ht⟩:∃ t:Nat,(t:Int)=L - f.leastPlace:=⟨(L - f.leastPlace).toNat,by omega⟩
   have et:(L - f.leastPlace).toNat=t:=by omega
   rw [et,Nat.shiftLeft_eq]
   obtain ⟨u,hu⟩:∃ u:Nat,(place - L).toNat=u:=⟨_,rfl⟩
   obtain ⟨v,hv⟩:∃ v:Nat,(L - place).toNat=v:=⟨_,rfl⟩
   rw [hu,hv] at hd hge ⊢
   have hk:a + v=b + t + u:=by omega
   have hx:rv f r * 2 ^ v ≤ mag * 2 ^ u * 2 ^ t:=by
     have h2:rv f r * 2 ^ b * 2 ^ v ≤ mag * 2 ^ a * 2 ^ v:=Nat.mul_le_mul_right _ h
     have e1:mag * 2 ^ a * 2 ^ v=mag * 2 ^ u * 2 ^ t * 2 ^ b:=by
       rw [Nat.mul_assoc,← Nat.pow_add,hk,Nat.pow_add,Nat.pow_add]
       simp only [Nat.mul_assoc,Nat.mul_comm,Nat.mul_left_comm]
     have e2:rv f r * 2 ^ b * 2 ^ v=rv f r * 2 ^ v * 2 ^ b:=Nat.mul_right_comm _ _ _
     rw [e1,e2] at h2
     exact Nat.le_of_mul_le_mul_right h2 (Nat.two_pow_pos _)
   rcases Nat.lt_trichotomy (re f r) t with hlt | heq | hgt
   · have h3:=hge (by omega)
     have h4:=rm_lt f r
     have h10:=cut_ge (neg:=neg) h3
     have h11:(re f r + 1) * f.binade ≤ t * f.binade:=Nat.mul_le_mul_right _ hlt
     rw [Nat.succ_mul] at h11
     omega
   · rw [heq] at hrv hreq
     have h9:rm f r * 2 ^ v ≤ mag * 2 ^ u:=by
       rw [hrv,Nat.mul_right_comm] at hx
       exact Nat.le_of_mul_le_mul_right hx (Nat.two_pow_pos _)
     have:=cut_ge (neg:=neg) h9
     omega
   · exfalso
     have h4:=rm_ge f r (by omega)
     have h5:2 * f.binade * 2 ^ t ≤ rv f r:=by
       rw [hrv]
       calc 2 * f.binade * 2 ^ t=f.binade * 2 ^ (t + 1):=by rw [Nat.pow_succ]; simp only [Nat.mul_assoc,Nat.mul_comm,Nat.mul_left_comm]
         _ ≤ f.binade * 2 ^ re f r:=Nat.mul_le_mul_left _ (Nat.pow_le_pow_right (by omega) hgt)
         _ ≤ rm f r * 2 ^ re f r:=Nat.mul_le_mul_right _ h4
     have h6:mag * 2 ^ u * 2 ^ t < 2 * f.binade * 2 ^ v * 2 ^ t:=Nat.mul_lt_mul_of_pos_right hd (Nat.two_pow_pos _)
     have h7:2 * f.binade * 2 ^ t * 2 ^ v ≤ rv f r * 2 ^ v:=Nat.mul_le_mul_right _ h5
     have h8:2 * f.binade * 2 ^ t * 2 ^ v=2 * f.binade * 2 ^ v * 2 ^ t:=Nat.mul_right_comm _ _ _
     omega
theorem rnd_exact {f:Format} {neg:Bool} {mag:Nat} {place:Int} {r a b:Nat} (hr:r ≤ f.infRung) (hp:place - f.leastPlace=(a:Int) - b) (h:mag * 2 ^ a=rv f r * 2 ^ b):rnd f neg mag place=r :=
 Nat.le_antisymm (rnd_le hp (Nat.le_of_eq h)) (rnd_ge hr hp (Nat.le_of_eq h.symm))
def rung (f:Format) (x:Nat):Nat:=x % f.signWeight
def sgn (f:Format) (x:Nat):Bool:=x / f.signWeight % 2 == 1
def fin (f:Format) (x:Nat):Prop:=rung f x < f.infRung
def iv (f:Format) (x:Nat):Int:=if sgn f x then -(rv f (rung f x):Int) else rv f (rung f x)
theorem read_fin {f:Format} {x:Nat} (h:fin f x):f.read x=.number (sgn f x) (rm f (rung f x)) (f.leastPlace + re f (rung f x)):=by
 unfold fin at h
 unfold Format.read
 simp only
 rw [show x % f.signWeight=rung f x from rfl]
 have hbp:=binade_pos f
 have hreq:=rung_eq f (rung f x)
 split
 · rename_i hl
   have e0:re f (rung f x)=0:=by unfold re; rw [Nat.div_eq_of_lt hl]
   rw [e0] at hreq ⊢
   have:rm f (rung f x)=rung f x:=by omega
   rw [this]; simp [sgn]
 · rename_i hl
   try rw [if_pos h]
   have h1:=Nat.div_add_mod (rung f x) f.binade
   have h3:f.binade * (rung f x / f.binade)=(rung f x / f.binade) * f.binade:=Nat.mul_comm _ _
   have hpos:1 ≤ rung f x / f.binade:=(Nat.le_div_iff_mul_le hbp).2 (by omega)
   have e:rm f (rung f x)=f.binade + rung f x % f.binade:=by
     unfold rm re
     obtain ⟨q,hq⟩:∃ q,rung f x / f.binade=q + 1:=⟨rung f x / f.binade - 1,by omega⟩
     rw [hq] at h1 h3 ⊢
     simp only [Nat.add_sub_cancel]
     rw [Nat.succ_mul] at h3
     omega
   rw [e]; rfl
theorem signWeight_pos (f:Format):0 < f.signWeight:=Nat.two_pow_pos _
theorem rung_word (f:Format) (s:Bool) (r:Nat) (h:r < f.signWeight):rung f (f.word s r)=r:=by
 unfold rung Format.word
 split
 · rw [Nat.add_mod_left]; exact Nat.mod_eq_of_lt h
 · exact Nat.mod_eq_of_lt h
theorem sgn_word (f:Format) (s:Bool) (r:Nat) (h:r < f.signWeight):sgn f (f.word s r)=s:=by
 unfold sgn Format.word
 have hp:=signWeight_pos f
 cases s
 · simp [Nat.div_eq_of_lt h]
 · have:(f.signWeight + r) / f.signWeight=1:=by rw [Nat.add_div_left _ hp,Nat.div_eq_of_lt h]
   simp [this]
theorem iv_word (f:Format) (s:Bool) (r:Nat) (h:r < f.infRung):fin f (f.word s r) ∧ iv f (f.word s r)=if s then -(rv f r:Int) else rv f r:=by
 have hl:=Nat.lt_trans h (Format.infRung_lt f)
 constructor
 · unfold fin; rw [rung_word f s r hl]; exact h
 · unfold iv; rw [rung_word f s r hl,sgn_word f s r hl]
theorem compare_mul (a b:Int) (c:Nat) (h:0 < c):compare (a * c) (b * c)=compare a b:=by
 have hc:(0:Int) < c:=by omega
 rcases Int.lt_trichotomy a b with hl | he | hg
 · rw [Int.compare_eq_lt.2 hl,Int.compare_eq_lt.2 (Int.mul_lt_mul_of_pos_right hl hc)]
 · rw [he,Int.compare_eq_eq.2 rfl,Int.compare_eq_eq.2 rfl]
 · rw [Int.compare_eq_gt.2 hg,Int.compare_eq_gt.2 (Int.mul_lt_mul_of_pos_right hg hc)]
theorem signed_scale (s:Bool) (m i c:Nat):signed s m (i + c)=signed s m i * (2 ^ c:Nat):=by
 have e:m <<< (i + c)=m <<< i * 2 ^ c:=by rw [Nat.shiftLeft_eq,Nat.shiftLeft_eq,Nat.pow_add,Nat.mul_assoc]
 unfold signed
 rw [e]
 cases s
 · simp
 · simp [Int.neg_mul]
theorem signed_iv (f:Format) (x:Nat):signed (sgn f x) (rm f (rung f x)) (re f (rung f x))=iv f x:=by
 unfold signed iv rv
 rw [Nat.shiftLeft_eq]
theorem order_fin {f:Format} {x y:Nat} (hx:fin f x) (hy:fin f y):f.order x y=some (compare (iv f x) (iv f y)):=by
 unfold Format.order
 rw [read_fin hx,read_fin hy]
 simp only [Datum.order,Option.some.injEq]
 have hi:=signed_iv f x
 have hj:=signed_iv f y
 generalize re f (rung f x)=i at *
 generalize re f (rung f y)=j at *
 generalize rm f (rung f x)=m at *
 generalize rm f (rung f y)=n at *
 obtain ⟨b,hb⟩:∃ b:Nat,min (f.leastPlace + (i:Int)) (f.leastPlace + (j:Int))=f.leastPlace + b:=⟨min i j,by omega⟩
 rw [hb]
 obtain ⟨i',hi'⟩:∃ i',i=i' + b:=⟨i - b,by omega⟩
 obtain ⟨j',hj'⟩:∃ j',j=j' + b:=⟨j - b,by omega⟩
 have e1:(f.leastPlace + (i:Int) - (f.leastPlace + b)).toNat=i':=by omega
 have e2:(f.leastPlace + (j:Int) - (f.leastPlace + b)).toNat=j':=by omega
 rw [e1,e2,← hi,← hj,hi',hj',signed_scale,signed_scale,compare_mul _ _ _ (Nat.two_pow_pos _)]
structure Val (f:Format) (x:Nat) (v:Int):Prop where
 lt:x < 2 ^ f.width
 fin:fin f x
 iv:iv f x=v
def Rep (f:Format) (v:Int):Prop:=∃ r,r < f.infRung ∧ rv f r=v.natAbs
theorem Val.rep {f:Format} {x:Nat} {v:Int} (h:Val f x v):Rep f v:=by
 refine ⟨rung f x,h.fin,?_⟩
 rw [← h.iv]; unfold Flo.iv
 split <;> simp
theorem nearest_val {f:Format} {s:Bool} {mag:Nat} {place:Int} {a b:Nat} {v:Int} (hr:Rep f v) (hp:place - f.leastPlace=(a:Int) - b) (h:mag * 2 ^ a=v.natAbs * 2 ^ b) (hs:v < 0 → s=true) (hs':0 < v → s=false):Val f (f.nearest s mag place) v:=by
 obtain ⟨r,hr,hv⟩:=hr
 have hx:=rnd_exact (neg:=s) (Nat.le_of_lt hr) hp (by rw [h,hv])
 have hw:=iv_word f s r hr
 refine ⟨Format.nearest_lt _ _ _ _,?_,?_⟩
 · rw [nearest_eq,hx]; exact hw.1
 · rw [nearest_eq,hx,hw.2,hv]
   rcases Int.lt_trichotomy v 0 with h | h | h
   · rw [hs h]; simp; omega
   · subst h; simp
   · rw [hs' h]; simp; omega
theorem sum_val {f:Format} {s t:Bool} {m n i j:Nat} {a b:Int} (hi:signed s m i=a) (hj:signed t n j=b) (hr:Rep f (a + b)) :
   ∃ z,((Datum.number s m (f.leastPlace + i)).sum (Datum.number t n (f.leastPlace + j))).map f.write=some z ∧ Val f z (a + b):=by
 simp only [Datum.sum,Option.map_some,Format.write]
 refine ⟨_,rfl,?_⟩
 obtain ⟨c,hc⟩:∃ c:Nat,min (f.leastPlace + (i:Int)) (f.leastPlace + (j:Int))=f.leastPlace + c:=⟨min i j,by omega⟩
 rw [hc]
 obtain ⟨i',hi'⟩:∃ i',i=i' + c:=⟨i - c,by omega⟩
 obtain ⟨j',hj'⟩:∃ j',j=j' + c:=⟨j - c,by omega⟩
 have e1:(f.leastPlace + (i:Int) - (f.leastPlace + c)).toNat=i':=by omega
 have e2:(f.leastPlace + (j:Int) - (f.leastPlace + c)).toNat=j':=by omega
 rw [e1,e2]
 rw [hi',signed_scale] at hi
 rw [hj',signed_scale] at hj
 generalize signed s m i'=p at *
 generalize signed t n j'=q at *
 have hsum:(p + q) * (2 ^ c:Nat)=a + b:=by rw [Int.add_mul,hi,hj]
 have hp:(0:Int) < (2 ^ c:Nat):=by have:=Nat.two_pow_pos c; omega
 refine nearest_val (a:=c) (b:=0) hr (by omega) ?_ ?_ ?_
 · rw [← hsum,Int.natAbs_mul]; simp
 · intro hneg
   have:p + q < 0:=by
     rcases Int.lt_or_le (p + q) 0 with h | h
     · exact h
     · have:=Int.mul_nonneg h (Int.le_of_lt hp); omega
   rw [if_neg (by omega)]; simpa using this
 · intro hpos
   have:0 < p + q:=by
     rcases Int.lt_or_le 0 (p + q) with h | h
     · exact h
     · have:=Int.mul_nonpos_of_nonpos_of_nonneg h (Int.le_of_lt hp); omega
   rw [if_neg (by omega)]; simp; omega
theorem add_val {f:Format} {x y:Nat} {a b:Int} (hx:Val f x a) (hy:Val f y b) (hr:Rep f (a + b)):∃ z,f.add x y=some z ∧ Val f z (a + b):=by
 unfold Format.add
 rw [read_fin hx.fin,read_fin hy.fin]
 exact sum_val ((signed_iv f x).trans hx.iv) ((signed_iv f y).trans hy.iv) hr
theorem signed_not (s:Bool) (m i:Nat):signed (!s) m i=-signed s m i:=by cases s <;> simp [signed]
theorem sign_mul (s t:Bool) (p q:Nat):((if s then -(p:Int) else p) * (if t then -(q:Int) else q) < 0 → (s ^^ t)=true) ∧ (0 < (if s then -(p:Int) else p) * (if t then -(q:Int) else q) → (s ^^ t)=false):=by
 have h:=Int.mul_nonneg (Int.natCast_nonneg p) (Int.natCast_nonneg q)
 have e1:-(p:Int) * q=-((p:Int) * q):=Int.neg_mul _ _
 have e2:(p:Int) * -(q:Int)=-((p:Int) * q):=Int.mul_neg _ _
 have e3:-(p:Int) * -(q:Int)=(p:Int) * q:=Int.neg_mul_neg _ _
 cases s <;> cases t <;> simp only [Bool.false_eq_true,if_false,if_true] <;> refine ⟨fun h => ?_,fun h => ?_⟩ <;> first | rfl | (exfalso; first | omega | (rw [e3] at h; omega) | (rw [e1] at h; omega) | (rw [e2] at h; omega))
theorem natAbs_sign (s:Bool) (p:Nat):(if s then -(p:Int) else p).natAbs=p:=by cases s <;> simp
theorem mul_val {f:Format} {x y:Nat} {a b c:Int} {l:Nat} (hl:f.leastPlace=-(l:Int)) (hx:Val f x a) (hy:Val f y b) (hc:a * b=c * (2 ^ l:Nat)) (hr:Rep f c):∃ z,f.mul x y=some z ∧ Val f z c:=by
 have hi:=hx.iv
 have hj:=hy.iv
 unfold Flo.iv rv at hi hj
 unfold Format.mul
 rw [read_fin hx.fin,read_fin hy.fin]
 simp only [Datum.product,Option.map_some,Format.write]
 refine ⟨_,rfl,?_⟩
 generalize re f (rung f x)=i at *
 generalize re f (rung f y)=j at *
 generalize rm f (rung f x)=m at *
 generalize rm f (rung f y)=n at *
 have hpl:(0:Int) < (2 ^ l:Nat):=by have:=Nat.two_pow_pos l; omega
 have hs:=sign_mul (sgn f x) (sgn f y) (m * 2 ^ i) (n * 2 ^ j)
 have ha:=natAbs_sign (sgn f x) (m * 2 ^ i)
 have hb:=natAbs_sign (sgn f y) (n * 2 ^ j)
 rw [hi] at hs ha
 rw [hj] at hs hb
 refine nearest_val (a:=i + j) (b:=l) hr (by rw [hl]; omega) ?_ (fun h => hs.1 ?_) (fun h => hs.2 ?_)
 · have h:=congrArg Int.natAbs hc
   rw [Int.natAbs_mul,Int.natAbs_mul,ha,hb] at h
   rw [Int.natAbs_natCast] at h
   rw [← h,Nat.pow_add]
   simp only [Nat.mul_assoc,Nat.mul_left_comm]
 · rw [hc]; exact Int.mul_neg_of_neg_of_pos h hpl
 · rw [hc]; exact Int.mul_pos h hpl
theorem rep_of {f:Format} {v:Int} {m e:Nat} (hv:v.natAbs=m * 2 ^ e) (hm:m < 2 * f.binade) (he:f.fractionBits ≤ e) (hmax:(e + 2) * f.binade ≤ f.infRung):Rep f v:=by
 have hbp:=binade_pos f
 by_cases h0:m=0
 · refine ⟨0,?_,?_⟩
   · have:0 < (e + 2) * f.binade:=Nat.mul_pos (by omega) hbp
     omega
   · rw [hv,h0]; simp [rv,rm,re]
 · have hl:=Nat.log2_self_le h0
   have hu:m < 2 ^ (m.log2 + 1):=Nat.lt_log2_self
   have hlog:m.log2 ≤ f.fractionBits:=by
     have:m.log2 < f.fractionBits + 1:=(Nat.log2_lt h0).2 (by rw [Nat.pow_succ,Nat.mul_comm]; exact hm)
     omega
   obtain ⟨k,hk⟩:∃ k,m.log2 + k=f.fractionBits:=⟨f.fractionBits - m.log2,by omega⟩
   have h1:f.binade ≤ m * 2 ^ k:=by
     unfold Format.binade; rw [← hk,Nat.pow_add]; exact Nat.mul_le_mul_right _ hl
   have h2:m * 2 ^ k < 2 * f.binade:=by
     unfold Format.binade
     calc m * 2 ^ k < 2 ^ (m.log2 + 1) * 2 ^ k:=Nat.mul_lt_mul_of_pos_right hu (Nat.two_pow_pos _)
       _=2 * 2 ^ f.fractionBits:=by rw [← hk,Nat.pow_succ,Nat.pow_add]; simp only [Nat.mul_comm,Nat.mul_left_comm]
   have hke:k ≤ e:=by omega
   refine ⟨(e - k) * f.binade + m * 2 ^ k,?_,?_⟩
   · have:(e - k) * f.binade ≤ e * f.binade:=Nat.mul_le_mul_right _ (by omega)
     rw [Nat.add_mul] at hmax
     omega
   · have hdiv:((e - k) * f.binade + m * 2 ^ k) / f.binade=e - k + 1:=by
       rw [Nat.mul_comm,Nat.mul_add_div hbp]
       have:m * 2 ^ k / f.binade=1:=by
         rw [Nat.div_eq_iff hbp]; omega
       omega
     have hre:re f ((e - k) * f.binade + m * 2 ^ k)=e - k:=by unfold re; rw [hdiv]; omega
     have hrm:rm f ((e - k) * f.binade + m * 2 ^ k)=m * 2 ^ k:=by unfold rm; rw [hre]; omega
     unfold rv
     rw [hre,hrm,hv,Nat.mul_assoc,← Nat.pow_add]
     congr 2; omega
theorem single_least:single.leastPlace=-149:=by decide
theorem double_least:double.leastPlace=-1074:=by decide
theorem single_binade:single.binade=8388608:=by decide
theorem double_binade:double.binade=4503599627370496:=by decide
theorem single_inf:single.infRung=255 * single.binade:=by decide
theorem double_inf:double.infRung=2047 * double.binade:=by decide
theorem val_nan {k:FloatKind} {x:Nat} {v:Int} (h:Val k.format x v):(k.decode x).isNaN=false:=by
 unfold FloatKind.decode; rw [read_fin h.fin]; rfl
theorem val_inf {k:FloatKind} {x:Nat} {v:Int} (h:Val k.format x v):(k.decode x).isInfinity=false:=by
 unfold FloatKind.decode; rw [read_fin h.fin]; rfl
theorem order_val {f:Format} {x y:Nat} {a b:Int} (hx:Val f x a) (hy:Val f y b):f.order x y=some (compare a b):=by
 rw [order_fin hx.fin hy.fin,hx.iv,hy.iv]
theorem val_digits {f:Format} {x:Nat} {v:Int} (h:Val f x v):v.natAbs=rm f (rung f x) * 2 ^ re f (rung f x):=by
 rw [← h.iv]; unfold Flo.iv rv; exact natAbs_sign _ _
theorem re_lt {f:Format} {r e:Nat} (h:r < f.infRung) (he:f.infRung=(e + 1) * f.binade):re f r < e + 1:=by
 have hbp:=binade_pos f
 have:r / f.binade < e + 1:=(Nat.div_lt_iff_lt_mul hbp).2 (by rw [← he]; exact h)
 unfold re; omega
def wup:Nat:=925
theorem wup_eq:wup=925:=rfl
theorem widen_val {x:Nat} {a:Int} (h:Val single x a):∃ y,floatToFloatBits .f32 x .f64=some y ∧ Val double y (a * (2 ^ wup:Nat)):=by
 have hd:=val_digits h
 have hr:=re_lt (e:=254) h.fin (by decide)
 have hm:=rm_lt single (rung single x)
 have hb:=single_binade
 have hw:=wup_eq
 have hrep:Rep double (a * (2 ^ wup:Nat)):=by
   refine rep_of (m:=rm single (rung single x)) (e:=re single (rung single x) + wup) ?_ ?_ ?_ ?_
   · rw [Int.natAbs_mul,Int.natAbs_natCast,hd,Nat.mul_assoc,← Nat.pow_add]
   · rw [double_binade]; omega
   · show 52 ≤ _; omega
   · rw [double_inf]; exact Nat.mul_le_mul_right _ (by omega)
 have hs:∀ {v:Int},v=a * (2 ^ wup:Nat) → (v < 0 → sgn single x=true) ∧ (0 < v → sgn single x=false):=by
   intro v hv
   have hiv:=h.iv
   unfold Flo.iv at hiv
   have hp:(0:Int) < (2 ^ wup:Nat):=Int.ofNat_lt.2 (Nat.two_pow_pos wup)
   subst hv
   constructor
   · intro hneg
     cases hsg:sgn single x
     · exfalso
       rw [hsg] at hiv; simp only [Bool.false_eq_true,if_false] at hiv
       have:=Int.mul_nonneg (show (0:Int) ≤ a by omega) (Int.le_of_lt hp)
       exact absurd hneg (Int.not_lt.2 this)
     · rfl
   · intro hpos
     cases hsg:sgn single x
     · rfl
     · exfalso
       rw [hsg] at hiv; simp only [if_true] at hiv
       have:=Int.mul_nonpos_of_nonpos_of_nonneg (show a ≤ 0 by omega) (Int.le_of_lt hp)
       exact absurd hpos (Int.not_lt.2 this)
 have hv:=nearest_val (f:=double) (s:=sgn single x) (mag:=rm single (rung single x)) (place:=single.leastPlace + re single (rung single x)) (a:=re single (rung single x) + wup) (b:=0) hrep
   (by rw [single_least,double_least]; omega) (by rw [Int.natAbs_mul,Int.natAbs_natCast,hd,Nat.pow_add]; simp only [Nat.mul_assoc,Nat.pow_zero,Nat.mul_one]) (hs rfl).1 (hs rfl).2
 refine ⟨_,?_,hv⟩
 unfold floatToFloatBits
 rw [if_neg (by decide)]
 have hdec:FloatKind.decode .f32 x=.number (sgn single x) (rm single (rung single x)) (single.leastPlace + re single (rung single x)):=read_fin h.fin
 rw [hdec]
 have hni:(FloatKind.decode .f64 (FloatKind.encode .f64 (.number (sgn single x) (rm single (rung single x)) (single.leastPlace + re single (rung single x))))).isInfinity=false:=val_inf (k:=.f64) hv
 simp only [hni]
 rfl
end Flo
end Go.Proofs.YthhfljldbfgpcaaGreatDoor
end

section
namespace Go.Proofs.YthhfljldbfgpcaaGreatDoor
namespace Flo
def nan (k:FloatKind) (x:Nat):Bool:=(k.decode x).isNaN
theorem order_nan_left {k:FloatKind} {x:Nat} (y:Nat) (h:nan k x=true):k.format.order x y=none:=by
 unfold nan FloatKind.decode at h
 unfold Ieee.Format.order
 cases hx:k.format.read x <;> simp_all [Ieee.Datum.isNaN,Ieee.Datum.order]
theorem order_nan_right {k:FloatKind} {y:Nat} (x:Nat) (h:nan k y=true):k.format.order x y=none:=by
 unfold nan FloatKind.decode at h
 unfold Ieee.Format.order
 cases hy:k.format.read y <;> simp_all [Ieee.Datum.isNaN]
 cases k.format.read x <;> simp [Ieee.Datum.order]
theorem order_self {k:FloatKind} {x:Nat} (h:nan k x=false):k.format.order x x=some .eq:=by
 unfold nan FloatKind.decode at h
 unfold Ieee.Format.order
 cases hx:k.format.read x <;> simp_all [Ieee.Datum.isNaN,Ieee.Datum.order]
def nanC (k:FloatKind) (x:Nat) (w:World):Nat:=(Question.nanConv k x).cut (w.tape w.drawn (Question.nanConv k x))
theorem nan_cut32 (t:Nat):nan .f32 ((t % 2) * 2 ^ 31 + 0x7f800000 + 1 + (t / 2) % (2 ^ 23 - 1))=true:=by
 unfold nan FloatKind.decode
 have h1:t % 2 < 2:=Nat.mod_lt _ (by omega)
 have h2:(t / 2) % (2 ^ 23 - 1) < 8388607:=Nat.mod_lt _ (by omega)
 generalize t % 2=a at *
 generalize (t / 2) % (2 ^ 23 - 1)=b at *
 show (Ieee.single.read _).isNaN=true
 unfold Ieee.Format.read
 have hs:Ieee.single.signWeight=2147483648:=by decide
 have hb:Ieee.single.binade=8388608:=by decide
 have hi:Ieee.single.infRung=2139095040:=by decide
 simp only [hs,hb,hi]
 have hm:(a * 2 ^ 31 + 2139095040 + 1 + b) % 2147483648=2139095041 + b:=by omega
 rw [hm]
 rw [if_neg (by omega),if_neg (by omega),if_neg (by omega)]
 rfl
theorem nan_cut64 (t:Nat):nan .f64 ((t % 2) * 2 ^ 63 + 0x7ff0000000000000 + 1 + (t / 2) % (2 ^ 52 - 1))=true:=by
 unfold nan FloatKind.decode
 have h1:t % 2 < 2:=Nat.mod_lt _ (by omega)
 have h2:(t / 2) % (2 ^ 52 - 1) < 2 ^ 52 - 1:=Nat.mod_lt _ (by omega)
 generalize t % 2=a at *
 generalize (t / 2) % (2 ^ 52 - 1)=b at *
 show (Ieee.double.read _).isNaN=true
 unfold Ieee.Format.read
 have hs:Ieee.double.signWeight=9223372036854775808:=by decide
 have hb:Ieee.double.binade=4503599627370496:=by decide
 have hi:Ieee.double.infRung=9218868437227405312:=by decide
 simp only [hs,hb,hi]
 have hm:(a * 2 ^ 63 + 9218868437227405312 + 1 + b) % 9223372036854775808=9218868437227405313 + b:=by omega
 rw [hm]
 rw [if_neg (by omega),if_neg (by omega),if_neg (by omega)]
 rfl
theorem nanC_nan (k:FloatKind) (x:Nat) (w:World):nan k (nanC k x w)=true:=by
 cases k
 · exact nan_cut32 _
 · exact nan_cut64 _
theorem run_convert_nan {P:Program} (src dst:TypeId) (s k:FloatKind) (b:Nat) (hne:s ≠ k) (hs:(P.underlying src).isSome=true) (hd:P.underlying dst=some (.float k)) (h:nan s b=true) (w:World) :
   (convert src dst (.float s b)).run P w=.ok (.float k (nanC k b w)) w.drew:=by
 obtain ⟨u,hs'⟩:=Option.isSome_iff_exists.1 hs
 unfold nan at h
 cases hd':s.decode b <;> simp_all [Ieee.Datum.isNaN]
 cases u <;> simp [convert,run_underlying hs',run_underlying hd,Conv.floatToFloat,hne,hd',nanC] <;> (intro hf; simp [Question.forced] at hf)
theorem one64:∃ s m e,FloatKind.f64.format.read 4607182418800017408=.number s (m + 1) e:=⟨false,4503599627370495,-52,by decide⟩
theorem kinds (f:Ieee.Format) (he:1 ≤ f.exponentBits) (x:Nat):fin f x ∨ (∃ s,f.read x=.infinity s) ∨ (∃ s t,f.read x=.nan s t):=by
 by_cases h:fin f x
 · exact .inl h
 · right
   unfold fin rung at h
   unfold Ieee.Format.read
   simp only
   have hb:f.binade ≤ f.infRung:=by
     unfold Ieee.Format.infRung
     have:2 ^ 1 ≤ 2 ^ f.exponentBits:=Nat.pow_le_pow_right (by omega) he
     exact Nat.le_mul_of_pos_left _ (by omega)
   rw [if_neg (by omega),if_neg h]
   split
   · exact .inl ⟨_,rfl⟩
   · exact .inr ⟨_,_,rfl⟩
theorem widen_any {x:Nat} (hx:x < 2 ^ 32) (h:nan .f32 x=false):∃ y,floatToFloatBits .f32 x .f64=some y ∧ nan .f64 y=false:=by
 rcases kinds Ieee.single (by decide) x with hf | ⟨s,hi⟩ | ⟨s,t,hn⟩
 · obtain ⟨y,hy,hv⟩:=widen_val ⟨hx,hf,rfl⟩
   exact ⟨y,hy,val_nan (k:=.f64) hv⟩
 · refine ⟨FloatKind.encode .f64 (.infinity s),?_,?_⟩
   · unfold floatToFloatBits
     rw [if_neg (by decide)]
     have:FloatKind.decode .f32 x=.infinity s:=hi
     rw [this]
   · cases s <;> decide
 · exfalso
   unfold nan FloatKind.decode at h
   have:FloatKind.format .f32=Ieee.single:=rfl
   rw [this,hn] at h
   cases h
end Flo
end Go.Proofs.YthhfljldbfgpcaaGreatDoor
end
