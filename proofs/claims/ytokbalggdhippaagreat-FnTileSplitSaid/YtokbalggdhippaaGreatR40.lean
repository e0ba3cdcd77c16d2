/- Merged texts: BjB, BjC, SiA, SiB, Ro, Guard, SiD. -/
import Derived.Test.YtokbalggdhippaaGreatR39
import Derived.Test.YtokbalggdhippaaGreatR38
import Derived.Test.YtokbalggdhippaaGreatR4
import Derived.Test.YtokbalggdhippaaGreatR6
import Derived.Test.YtokbalggdhippaaGreatR24
import Derived.Test.YtokbalggdhippaaGreatR28
import Derived.Test.YtokbalggdhippaaGreatR26
import Derived.Conc.Own3
set_option linter.all false
section
namespace Go.Proofs.YtokbalggdhippaaGreat
open Go.RowKit Flo
set_option maxRecDepth 100000 in
set_option maxHeartbeats 2000000 in
theorem l3Escape_val (c d:Nat) (n:Int) (w:World):Calls Vp.prog 83 #[.complex .f32 c d,.int .i64 n] w fun e w' => (∃ (k:Int) (a b:Nat),e=.returned (.tuple #[.int .i64 k,.complex .f32 a b]) ∧ IsEsc (okS c d) (mostN n) k ∧ (0 ≤ k → Al .f32 (orbS c d k.toNat).1 a ∧ Al .f32 (orbS c d k.toNat).2 b)) ∧ Drw w w':=by
 have hmb:=mostN_bd n
 go_enter Vp.func83,Tryz.ntmps83
 go_wp2
 go_loopw [6,7] (fun z i wr => ∃ k x y:Nat,k ≤ 401 ∧ i=.int .i64 k ∧ z=.complex .f32 x y ∧ x < 4294967296 ∧ y < 4294967296 ∧ Hid (Drw w wr) ∧ Hid (Al .f32 (orbS c d k).1 x ∧ Al .f32 (orbS c d k).2 y ∧ ∀ j,j < k → okS c d j=true)) (fun _ i _ => (401 - intOf i).toNat)
 case atStart => exact ⟨0,0,0,by omega,rfl,rfl,by omega,by omega,Drw.refl _,Al.refl _ _,Al.refl _ _,fun j hj => by omega⟩
 case round =>
   obtain ⟨k,x,y,hk,rfl,rfl,hx,hy,HD,HA⟩:=hrel
   obtain ⟨wo,rfl⟩:∃ wo,wo=wr:=⟨_,rfl⟩
   go_wp2_with fail
   refine (l3Most_is n _).mono ?_
   rintro e w1 ⟨rfl,rfl⟩
   by_cases hkr:(k:Int) ≤ mostN n
   · obtain ⟨p,q,w1,h1,_,_,d1,ap,aq⟩:=Flo.cwiden_al (P:=Vp.prog) 23 107 (by kernel_rfl) (Vp.und Tryz.underlying107) x y hx hy wo
     have H1:=Lib.hid (HD.out.trans d1)
     clear d1
     go_wp2_with fail
     refine (specNorm_al p q _).mono ?_
     rintro e w2 ⟨⟨m,rfl,hm,am⟩,hd⟩
     have H2:=Lib.hid (H1.out.trans hd)
     have HK:Hid (le4 m=okS c d k):=by
       unfold okS
       rw [widenC_al HA.out.1,widenC_al HA.out.2.1,normC_al ap aq]
       exact (le4_al am).symm
     clear hd H1 HD h1 ap aq am
     have hb:=HK.out
     unfold le4 at hb
     cases ho:okS c d k with
     | false =>
       rw [ho] at hb
       have HR:Hid (IsEsc (okS c d) (mostN n) k):=.inl ⟨k,rfl,hkr,ho,HA.out.2.2⟩
       have HAA:Hid (Al .f32 (orbS c d k).1 x ∧ Al .f32 (orbS c d k).2 y):=⟨HA.out.1,HA.out.2.1⟩
       clear ho HK HA
       go_wp2
       go_ret2
       exact ⟨⟨_,x,y,rfl,HR.out,fun _ => by rw [Int.toNat_natCast]; exact HAA.out⟩,H2.out⟩
     | true =>
       rw [ho] at hb
       have ho':=ho
       unfold okS at ho'
       have e1:=Al.same HA.out.1 (fin_num (fin_left ho'))
       have e2:=Al.same HA.out.2.1 (fin_num (fin_right ho'))
       subst e1 e2
       have HO:=Lib.hid ho'
       have HP:Hid (∀ j,j < k + 1 → okS c d j=true):=fun j hj => by
         by_cases e:j=k
         · rw [e]; exact ho
         · exact HA.out.2.2 j (by omega)
       clear ho ho' HK HA
       go_wp2_with fail
       refine (specStepS_al _ _ c d hx hy HO.out _).mono ?_
       rintro e w3 ⟨⟨a,b,rfl,ha,hb',aa,ab⟩,hd⟩
       have H3:=Lib.hid (H2.out.trans hd)
       have HQ:Hid (Al .f32 (orbS c d (k + 1)).1 a ∧ Al .f32 (orbS c d (k + 1)).2 b ∧ ∀ j,j < k + 1 → okS c d j=true):=⟨aa,ab,HP.out⟩
       clear hd H2 aa ab HP HO
       go_wp2
       go_roundw
       case rel => exact ⟨k + 1,a,b,by omega,by go_num,rfl,ha,hb',H3,HQ⟩
       case measure => simp [intOf]; omega
   · have HR:Hid (IsEsc (okS c d) (mostN n) (-1)):=.inr ⟨rfl,fun j hj => HA.out.2.2 j (by omega)⟩
     go_wp2
     go_ret2
     exact ⟨⟨_,x,y,rfl,HR.out,fun h => by omega⟩,HD.out⟩
def smC (c d:Nat) (n:Int):Nat :=
 if escN (okS c d) (mostN n).toNat < 0 then 3212836864
 else smK (escN (okS c d) (mostN n).toNat) (narrowC (normC (widenC (orbS c d (escN (okS c d) (mostN n).toNat).toNat).1) (widenC (orbS c d (escN (okS c d) (mostN n).toNat).toNat).2)))
theorem escN_num {ok:Nat → Bool} {n k:Int} (h:IsEsc ok (mostN n) k):k=-1 ∨ (0 ≤ k ∧ k ≤ 400 ∧ ∀ j:Nat,j < k.toNat → ok j=true):=by
 have hb:=mostN_bd n
 rcases h with ⟨m,rfl,h1,h2,h3⟩ | ⟨rfl,h1⟩
 · exact .inr ⟨by omega,by omega,fun j hj => h3 j (by omega)⟩
 · exact .inl rfl
theorem Al.id {k:FloatKind} {x a:Nat} (h:Al k x a) (g:nan k x=false):a=x:=by
 rcases h with rfl | ⟨h1,h2⟩
 · rfl
 · rw [h1] at g; cases g
set_option maxRecDepth 100000 in
set_option maxHeartbeats 2000000 in
theorem implSmooth_is (c d:Nat) (n:Int) (hc:Bd 8 c) (hd:Bd 8 d) (w:World):Calls Vp.prog 62 #[.complex .f32 c d,.int .i64 n] w fun e w' => e=.returned (.float .f32 (smC c d n)) ∧ Below w.heap.size w w':=by
 have HC:=Lib.hid hc
 have HD:=Lib.hid hd
 clear hc hd
 go_enter Vp.func62,Tryz.ntmps62
 go_wp2_with fail
 refine (escS_is c d n _).mono ?_
 rintro e w1 ⟨⟨k,nm,rfl,hk,hnm,hal⟩,hb⟩
 have HB:=Lib.hid hb
 have he:=hk.most
 have hkc:=escN_num hk
 clear hb hk
 by_cases hk0:k < 0
 · have HS:Hid (smC c d n=3212836864):=by
     show _=_
     unfold smC
     rw [← he,if_pos hk0]
   clear he hkc hal
   go_wp2
   exact bodyPost_ret (v:=.float .f32 3212836864) (by simp [results,Tryz.f62,go_sem]) rfl ⟨by rw [HS.out],HB.out⟩
 · obtain ⟨g1,g2,g3⟩:=hkc.resolve_left (by omega)
   obtain ⟨b1,b2⟩:=orb_bd HC.out HD.out g3
   obtain ⟨m,u,e1,e2,e3,e4⟩:=norm_bd b1 b2
   have hm:nm=m:=by
     have h:=hal g1
     rw [e1] at h
     exact Al.id h e2
   subst hm
   obtain ⟨r1,r2⟩:=smK_runs (k:=k) (by omega) e4
   have HS:Hid (smC c d n=smK k u):=by
     show _=_
     unfold smC
     rw [← he,if_neg hk0,e1]
     unfold narrowC
     rw [e3]; rfl
   have q1:=fun w => run_convert_float_float (P:=Vp.prog) w 109 63 .f64 .f32 nm u (by kernel_rfl) (Vp.und Tryz.underlying63) e3
   have q2:=fun w => run_float_arith (P:=Vp.prog) w .quo 63 .f32 _ _ _ r1
   have q3:=fun w => run_float_arith (P:=Vp.prog) w .add 63 .f32 _ _ _ r2
   generalize opC .quo .f32 1082130432 u=q at *
   generalize smK k u=s at *
   clear r1 r2 e1 e2 e3 e4 b1 b2 g3 hal he hkc
   go_wp2
   exact bodyPost_ret (v:=.float .f32 s) (by simp [results,Tryz.f62,go_sem]) rfl ⟨by rw [HS.out],HB.out⟩
set_option maxRecDepth 100000 in
set_option maxHeartbeats 2000000 in
theorem specSmooth_is (c d:Nat) (n:Int) (hc:Bd 8 c) (hd:Bd 8 d) (w:World):Calls Vp.prog 54 #[.complex .f32 c d,.int .i64 n] w fun e w' => e=.returned (.float .f32 (smC c d n)) ∧ Drw w w':=by
 have HC:=Lib.hid hc
 have HD:=Lib.hid hd
 clear hc hd
 go_enter Vp.func54,Tryz.ntmps54
 go_wp2_with fail
 refine (l3Escape_val c d n _).mono ?_
 rintro e w1 ⟨⟨k,a,b,rfl,hk,hal⟩,hb⟩
 have HB:=Lib.hid hb
 have he:=hk.most
 have hkc:=escN_num hk
 clear hb hk
 by_cases hk0:k < 0
 · have HS:Hid (smC c d n=3212836864):=by
     show _=_
     unfold smC
     rw [← he,if_pos hk0]
   clear he hkc hal
   go_wp2
   exact bodyPost_ret (v:=.float .f32 3212836864) (by simp [results,Tryz.f54,go_sem]) rfl ⟨by rw [HS.out],HB.out⟩
 · obtain ⟨g1,g2,g3⟩:=hkc.resolve_left (by omega)
   obtain ⟨b1,b2⟩:=orb_bd HC.out HD.out g3
   obtain ⟨m,u,e1,e2,e3,e4⟩:=norm_bd b1 b2
   obtain ⟨h1,h2⟩:=hal g1
   have ha:a=(orbS c d k.toNat).1:=Al.id h1 b1.nan
   have hb:b=(orbS c d k.toNat).2:=Al.id h2 b2.nan
   obtain ⟨r1,r2⟩:=smK_runs (k:=k) (by omega) e4
   have HS:Hid (smC c d n=smK k u):=by
     show _=_
     unfold smC
     rw [← he,if_neg hk0,e1]
     unfold narrowC
     rw [e3]; rfl
   rw [← ha,← hb] at e1
   have hal1:a < 4294967296:=by rw [ha]; exact (orbS_lt c d _).1
   have hbl1:b < 4294967296:=by rw [hb]; exact (orbS_lt c d _).2
   obtain ⟨p,q,w2,c1,_,_,d1,ap,aq⟩:=Flo.cwiden_al (P:=Vp.prog) 23 107 (by kernel_rfl) (Vp.und Tryz.underlying107) a b hal1 hbl1 w1
   have HW:=Lib.hid (HB.out.trans d1)
   have HN:Hid (∀ x,Al .f64 (normC p q) x → x=m):=fun x hx => by
     rw [← normC_al ap aq,e1] at hx
     exact Al.id hx e2
   have q1:=fun w => run_convert_float_float (P:=Vp.prog) w 109 63 .f64 .f32 m u (by kernel_rfl) (Vp.und Tryz.underlying63) e3
   have q2:=fun w => run_float_arith (P:=Vp.prog) w .quo 63 .f32 _ _ _ r1
   have q3:=fun w => run_float_arith (P:=Vp.prog) w .add 63 .f32 _ _ _ r2
   generalize opC .quo .f32 1082130432 u=qq at *
   generalize smK k u=s at *
   clear r1 r2 e1 e2 e3 e4 b1 b2 g3 hal he hkc ha hb h1 h2 d1 ap aq hal1 hbl1
   go_wp2_with fail
   refine (specNorm_al p q _).mono ?_
   rintro e w3 ⟨⟨x,rfl,_,ax⟩,hd⟩
   have hx:=HN.out x ax
   subst hx
   have HZ:=Lib.hid (HW.out.trans hd)
   clear hd ax
   go_wp2
   exact bodyPost_ret (v:=.float .f32 s) (by simp [results,Tryz.f54,go_sem]) rfl ⟨by rw [HS.out],HZ.out⟩
end Go.Proofs.YtokbalggdhippaaGreat
end

section
namespace Go.Proofs.YtokbalggdhippaaGreat
open Go.RowKit
attribute [local go_sem ↓] Go.wp_at_zero Go.wp_at_succ
set_option maxRecDepth 100000 in
set_option maxHeartbeats 2000000 in
theorem boxOfCell_is (x y d:Nat) (a b A B S:Int) (hd:d ≤ 11) (hx:Flo.Pt x d a) (hy:Flo.Pt y d b) (ha:a.natAbs ≤ 65536) (hb:b.natAbs ≤ 65536)
   (hS:S=(2 ^ (24 - d):Nat)) (hA:A=a * S) (hB:B=b * S) (h1:-134217728 ≤ A) (h2:A + S ≤ 134217728) (h3:-134217728 ≤ B) (h4:B + S ≤ 134217728) (w:World) :
   Calls Vp.prog 61 #[.complex .f32 x y,.int .i64 d] w fun e w' => e=.returned (.agg #[.int .i64 A,.int .i64 (A + S),.int .i64 B,.int .i64 (B + S)]) ∧ Below w.heap.size w w':=by
 have hS0:0 < S:=by rw [hS]; have:=Nat.two_pow_pos (24 - d); omega
 obtain ⟨x1,x2,e1,e2,-,e3⟩:=Flo.steps_pt hd hx ha
 obtain ⟨y1,y2,d1,d2,-,d3⟩:=Flo.steps_pt hd hy hb
 rw [← hS,← hA] at e3
 rw [← hS,← hB] at d3
 have g1:=fun w => run_convert_float_float (P:=Vp.prog) w 63 109 .f32 .f64 _ _ (by kernel_rfl) (Vp.und Tryz.underlying109) e1
 have g2:=fun w => run_float_arith (P:=Vp.prog) w .mul 109 .f64 _ _ _ e2
 have g3:=fun w => run_convert_float_int (P:=Vp.prog) w 109 3 .f64 .i64 _ _ (by kernel_rfl) (Vp.und Tryz.underlying3) e3
 have g4:=fun w => run_convert_float_float (P:=Vp.prog) w 63 109 .f32 .f64 _ _ (by kernel_rfl) (Vp.und Tryz.underlying109) d1
 have g5:=fun w => run_float_arith (P:=Vp.prog) w .mul 109 .f64 _ _ _ d2
 have g6:=fun w => run_convert_float_int (P:=Vp.prog) w 109 3 .f64 .i64 _ _ (by kernel_rfl) (Vp.und Tryz.underlying3) d3
 have hsd:(16777216:Int) / 2 ^ d=S:=by rw [hS]; exact side_steps d hd
 obtain ⟨A2,k1,e4⟩:∃ x,wrap64 (A + S)=x ∧ A + S=x:=⟨_,w64 (by omega) (by omega),rfl⟩
 obtain ⟨B2,k2,e5⟩:∃ x,wrap64 (B + S)=x ∧ B + S=x:=⟨_,w64 (by omega) (by omega),rfl⟩
 rw [e4,e5]
 clear e4 e5
 have HO:Hid (∀ u0 u1 u2 u3:Value,Below w.heap.size w (w.alloc (.cells #[u0,u1,u2,u3] 101))):=fun u0 u1 u2 u3 => (Below.refl _ w).alloc (Nat.le_refl _) _
 have R:=Box.new w #[.int .i64 A,.int .i64 A2,.int .i64 B,.int .i64 B2] 101
 have r0:=R.cell 0 _ rfl
 have r1:=R.cell 1 _ rfl
 have r2:=R.cell 2 _ rfl
 have r3:=R.cell 3 _ rfl
 clear e1 e2 e3 d1 d2 d3 hx hy ha hb hS hA hB h1 h2 h3 h4 R
 go_enter Vp.func61,Tryz.ntmps61
 go_wp2
 exact bodyPost_ret (v:=.agg #[.int .i64 A,.int .i64 A2,.int .i64 B,.int .i64 B2]) (by simp [results,Tryz.f61,go_sem,k1,k2]) rfl ⟨rfl,HO.out _ _ _ _⟩
end Go.Proofs.YtokbalggdhippaaGreat
end

section
namespace Go.Proofs.YtokbalggdhippaaGreat.Bar
open Go.Conc Go.Proofs.YtokbalggdhippaaGreat.Tl Go.Proofs.YtokbalggdhippaaGreat.Lr
inductive Sub (P:Program):St → St → Prop
 | refl (x:St):Sub P x x
 | step {x x' y:St} (τ:Tape) (d:Nat):Go1 P (x.at τ d) x' → Sub P x' y → Sub P x y
section
variable {P:Program} {F J:St → Prop}
theorem Sub.trans {x y z:St} (h:Sub P x y) (k:Sub P y z):Sub P x z:=by
 induction h with
 | refl => exact k
 | step τ d g _ ih => exact .step τ d g (ih k)
theorem way_sub {M:St → Prop} (hp:∀ x,F x → Pop x) (h0:∀ x,F x → M x) (hs:∀ x (g:Tape → Nat → St),(∀ τ d,Go1 P (x.at τ d) (g τ d)) → (∀ τ d,Way P F (g τ d)) → (∀ τ d y,Sub P (g τ d) y → M y) → M x) {x:St} (h:Way P F x):∀ y,Sub P x y → M y:=by
 induction h with
 | @fin x h =>
   intro y hy
   cases hy with
   | refl => exact h0 x h
   | step τ d g _ => exact absurd (show Pop (x.at τ d) from hp x h) g.not_pop
 | @go x g hg hw ih =>
   intro y hy
   cases hy with
   | refl => exact hs x g hg hw ih
   | @step _ x' _ τ d g' k =>
     obtain rfl:=(hg τ d).inj g'
     exact ih τ d y k
end
end Go.Proofs.YtokbalggdhippaaGreat.Bar
end

section
namespace Go.Proofs.YtokbalggdhippaaGreat.Lr
open Go.Conc Go.Proofs.YtokbalggdhippaaGreat.Tl Go.Proofs.YtokbalggdhippaaGreat.Bar
variable {X:Cx} {B:Lk} {V W V' W':World}
theorem wr_same (hw:WR X B V W) (hV:V.heap.size ≤ V'.heap.size) (hVk:∀ b,b < V.heap.size → V'.heap[b]?=V.heap[b]?) (hW:W.heap.size ≤ W'.heap.size) (hWk:∀ b,b < W.heap.size → W'.heap[b]?=W.heap[b]?)
   (ht:W'.tape=V'.tape) (hd:W'.drawn=V'.drawn) (ho:W'.os=V'.os) (hu:W'.output=V'.output):WR X B V' W':=by
 refine { tape:=ht,drawn:=hd,os:=ho,output:=hu,fn:=hw.fn,inj:=hw.inj,glob:=hw.glob,live:=?_,froz:=?_,dead:=?_,dlt:=fun b h => Nat.lt_of_lt_of_le (hw.dlt b h) hV,flt:=fun b h => Nat.lt_of_lt_of_le (hw.flt b h) hV,low:=hw.low,nV:=Nat.le_trans hw.nV hV,nW:=Nat.le_trans hw.nW hW }
 · intro b b' h hd hf
   obtain ⟨o,o',h1,h2,h3⟩:=hw.live b b' h hd hf
   exact ⟨o,o',(hVk b (hw.ltV h)).trans h1,(hWk b' (hw.ltW h)).trans h2,h3⟩
 · intro b b' h hd hf
   obtain ⟨x,x',t,t',f,h1,h2,h3⟩:=hw.froz b b' h hd hf
   exact ⟨x,x',t,t',f,(hVk b (hw.ltV h)).trans h1,(hWk b' (hw.ltW h)).trans h2,h3⟩
 · intro b b' h hd
   obtain ⟨⟨t,h1⟩,h2⟩:=hw.dead b b' h hd
   exact ⟨⟨t,(hVk b (hw.ltV h)).trans h1⟩,Nat.lt_of_lt_of_le h2 hW⟩
theorem wr_new (hw:WR X B V W) {s s':Nat} {C:Array Value} {t:TypeId} (hs:∀ y,¬ B s y) (hs':∀ x,¬ B x s') (hV:V.heap[s]?=some (.cells C t (0,0))) (hW:W.heap[s']?=some (.cells C t (0,0))) (hC:∀ v ∈ C,Flat X v) (hd:¬ X.D s) (hf:¬ X.F s) (hN:X.N ≤ s) (hN':X.N ≤ s') :
   WR X (fun b b' => B b b' ∨ (b=s ∧ b'=s')) V W:=by
 have hle:Le B (fun b b' => B b b' ∨ (b=s ∧ b'=s')):=fun _ _ h => .inl h
 refine { tape:=hw.tape,drawn:=hw.drawn,os:=hw.os,output:=hw.output,fn:=?_,inj:=?_,glob:=fun g hg => .inl (hw.glob g hg),live:=?_,froz:=?_,dead:=?_,dlt:=hw.dlt,flt:=hw.flt,low:=?_,nV:=hw.nV,nW:=hw.nW }
 · rintro b b₁ b₂ (h1 | ⟨rfl,rfl⟩) (h2 | ⟨h3,rfl⟩)
   · exact hw.fn _ _ _ h1 h2
   · subst h3; exact absurd h1 (hs _)
   · exact absurd h2 (hs _)
   · rfl
 · rintro b₁ b₂ b' (h1 | ⟨rfl,rfl⟩) (h2 | ⟨rfl,h3⟩)
   · exact hw.inj _ _ _ h1 h2
   · subst h3; exact absurd h1 (hs' _)
   · exact absurd h2 (hs' _)
   · rfl
 · rintro b b' (h | ⟨rfl,rfl⟩) hd' hf'
   · obtain ⟨o,o',h1,h2,h3⟩:=hw.live b b' h hd' hf'
     exact ⟨o,o',h1,h2,h3.mono hle⟩
   · refine ⟨_,_,hV,hW,.cells t _ ⟨rfl,fun i v v' h1 h2 => ?_⟩⟩
     rw [h1] at h2
     cases h2
     exact hC v (Array.mem_of_getElem? h1) _
 · rintro b b' (h | ⟨rfl,rfl⟩) hd' hf'
   · obtain ⟨x,x',t,t',f,h1,h2,h3⟩:=hw.froz b b' h hd' hf'
     exact ⟨x,x',t,t',f,h1,h2,⟨h3.1.mono hle,h3.2⟩⟩
   · exact absurd hf' hf
 · rintro b b' (h | ⟨rfl,rfl⟩) hd'
   · exact hw.dead b b' h hd'
   · exact absurd hd' hd
 · rintro b b' (h | ⟨rfl,rfl⟩)
   · exact hw.low b b' h
   · omega
end Go.Proofs.YtokbalggdhippaaGreat.Lr
end

section
namespace Go.Proofs.YtokbalggdhippaaGreat.Co
open Go Go.Conc
def Ro (P:Program) {α:Type} (s:Sem α):Prop:=∀ w v w1,s.run P w=.ok v w1 → w1=w
section
variable {P:Program}
theorem Ro.pure {α:Type} (a:α):Ro P (Pure.pure a:Sem α):=by
 intro w v w1 h
 simp at h
 exact h.2.symm
theorem Ro.bind {α β:Type} {s:Sem α} {f:α → Sem β} (h:Ro P s) (k:∀ a,Ro P (f a)):Ro P (s >>= f):=by
 intro w v w1 e
 simp only [Sem.run_bind] at e
 cases hs:s.run P w with
 | ok a w2 =>
   rw [hs] at e
   rw [h w a w2 hs] at e
   exact k a w v w1 e
 | halt a w2 => rw [hs] at e; cases e
theorem Ro.load (a:Addr):Ro P (load a):=by
 intro w v w1 h
 simp only [Go.load,Sem.run] at h
 repeat' split at h
 all_goals first
   | (injection h with _ h; exact h.symm)
   | (cases h; done)
theorem Ro.asAddr (v:Value):Ro P (asAddr v):=by
 intro w x w1 h
 unfold Go.asAddr at h
 split at h <;> simp [runtimePanic] at h
 exact h.2.symm
theorem Ro.underlying (t:TypeId):Ro P (underlying t):=by
 intro w x w1 h
 simp [Go.underlying] at h
 split at h <;> simp at h
 exact h.2.symm
theorem Ro.typeInfo (t:TypeId):Ro P (typeInfo t):=by
 intro w x w1 h
 simp [Go.typeInfo] at h
 split at h <;> simp at h
 exact h.2.symm
theorem Ro.loadCellsFrom (a:Addr):∀ (n i:Nat) (acc:Array Value),Ro P (loadCellsFrom a i n acc)
 | 0,i,acc => Ro.pure acc
 | n + 1,i,acc => by
   unfold Go.loadCellsFrom
   exact Ro.bind (Ro.load _) fun v => Ro.loadCellsFrom a n (i + 1) _
theorem Ro.isAgg (t:TypeId):Ro P (isAgg t):=by
 unfold Go.isAgg
 refine Ro.bind (Ro.underlying t) fun d => ?_
 split <;> exact Ro.pure _
theorem Ro.loadVar (t:TypeId) (a:Addr):Ro P (loadVar t a):=by
 unfold Go.loadVar
 refine Ro.bind (Ro.isAgg t) fun b => ?_
 split
 · refine Ro.bind ?_ fun n => Ro.bind (Ro.loadCellsFrom a _ 0 #[]) fun _ => Ro.pure _
   unfold Go.sizeOf
   exact Ro.bind (Ro.typeInfo t) fun _ => Ro.pure _
 · exact Ro.load a
theorem Ro.mapM {α β:Type} {f:α → Sem β} (h:∀ a,Ro P (f a)):∀ l:List α,Ro P (l.mapM f)
 | [] => by simpa using Ro.pure (P:=P) ([]:List β)
 | a :: l => by
   rw [List.mapM_cons]
   exact Ro.bind (h a) fun _ => Ro.bind (Ro.mapM h l) fun _ => Ro.pure _
theorem Ro.results (fn:Func) (t:Array Value):Ro P (results fn t):=by
 unfold Go.results
 rw [Array.mapM_eq_mapM_toList]
 refine Ro.bind ?_ fun vs => Ro.pure _
 rw [map_eq_pure_bind]
 refine Ro.bind (Ro.mapM (fun x => ?_) _) fun _ => Ro.pure _
 cases x with
 | tmp i => exact Ro.pure _
 | cell a ty => exact Ro.bind (Ro.asAddr _) fun q => Ro.loadVar _ _
end
end Go.Proofs.YtokbalggdhippaaGreat.Co
end

section
namespace Go.Proofs.YtokbalggdhippaaGreat
open Go
theorem mul_int {P:Program} {t:TypeId} (v:Value):(∃ n,v=.int .i64 n) ∨ ∀ w,∃ s,(binOp .mul t v (.int .i64 0)).run P w=.halt s w ∧ ((∃ m,s=.stuck m) ∨ s=.unsupported .addressObserved):=by
 unfold binOp
 cases v <;> simp
 split
 · subst_vars
   exact .inl rfl
 · exact .inr (by simp)
open Go.Conc Go.Proofs.YtokbalggdhippaaGreat.Bar Go.Proofs.YtokbalggdhippaaGreat.Co
theorem way_step {P:Program} {F:St → Prop} (hF:∀ x,F x → Pop x) {x:St} (h:Bar.Way P F x) (hp:¬ Pop x) (τ:Tape) (d:Nat):∃ x',Go1 P (x.at τ d) x' ∧ Bar.Way P F x':=by
 cases h with
 | fin h => exact absurd (hF x h) hp
 | go g hg hw => exact ⟨g τ d,hg τ d,hw τ d⟩
theorem way_oper {P:Program} {F:St → Prop} (hF:∀ x,F x → Pop x) {b:Frame} {a:Act} {ops:Array Oper} {i:Nat} {rest:List Nat} {k:List Item} {cs:List Frame} {V:World} {o:Oper} (ho:ops[i]?=some o) (hg:o.guard=none) (hk:b.kind ≠ .early) {v:Value}
   (hr:(∀ w,(execOp a.eval o).run P w=.ok (.value v) w) ∨ ∀ w,∃ s,(execOp a.eval o).run P w=.halt s w ∧ ((∃ m,s=.stuck m) ∨ s=.unsupported .addressObserved)) (h:Bar.Way P F ⟨b.at a (.inRegion ops (i :: rest) :: k),cs,V⟩) :
   (∀ w,(execOp a.eval o).run P w=.ok (.value v) w) ∧ Bar.Way P F ⟨b.at (a.put o.dst v) (.inRegion ops rest :: k),cs,V⟩:=by
 obtain ⟨x',⟨es,hgo⟩,hw⟩:=way_step hF h (fun hp => hp.2.1 rfl) V.tape V.drawn
 have hgo:stepG P true (G (b.at a (.inRegion ops (i :: rest) :: k)) (cs ++ [wall P])) V=_:=hgo
 rcases hr with hr | hr
 · refine ⟨hr,?_⟩
   rw [stepG_value ho (by simp [Region.wanted,hg]) hk (hr V)] at hgo
   injection hgo with h1 h2 _
   injection h1 with h3 h4 _ _
   have h5:cs=x'.cs:=List.append_cancel_right h4
   clear h4
   obtain ⟨x1,x2,x3⟩:=x'
   dsimp only at h2 h3 h5
   subst h2 h3 h5
   exact hw
 · exfalso
   obtain ⟨s,hr,hs⟩:=hr V
   rw [stepG_oper ho (by simp [Region.wanted,hg])] at hgo
   rcases hs with ⟨m,rfl⟩ | rfl
   · simp [stepG.apply,hr,GStep.after] at hgo
   · simp [stepG.apply,hr,GStep.after] at hgo
theorem way_ctl {P:Program} {F:St → Prop} (hF:∀ x,F x → Pop x) {fr fr1:Frame} {cs cs1:List Frame} {V:World} {es:Array Event} (hm:fr.mode=.run) (hst:stepG P true (G fr (cs ++ [wall P])) V=.go (G fr1 (cs1 ++ [wall P])) V es) (h:Bar.Way P F ⟨fr,cs,V⟩):Bar.Way P F ⟨fr1,cs1,V⟩:=by
 obtain ⟨x',⟨es',hgo⟩,hw⟩:=way_step hF h (fun hp => hp.2.1 hm) V.tape V.drawn
 have hgo:stepG P true (G fr (cs ++ [wall P])) V=_:=hgo
 rw [hst] at hgo
 injection hgo with h1 h2 _
 injection h1 with h3 h4 _ _
 have h5:cs1=x'.cs:=List.append_cancel_right h4
 clear h4
 obtain ⟨x1,x2,x3⟩:=x'
 dsimp only at h2 h3 h5
 subst h2 h3 h5
 exact hw
end Go.Proofs.YtokbalggdhippaaGreat
end

section
namespace Go.Proofs.YtokbalggdhippaaGreat
open Go.Conc Go.Proofs.YtokbalggdhippaaGreat.Bar Go.Proofs.YtokbalggdhippaaGreat.Co
theorem mulI {P:Program} {a:Act} {o:Oper} {i:Nat} {t t':TypeId} (hop:o.op=.binOp .mul t (.tmp i) (.const (.int .i64 0)) t') :
   (∃ n,a.eval (.tmp i)=.int .i64 n ∧ ∃ v,∀ w,(execOp a.eval o).run P w=.ok (.value v) w) ∨ ∀ w,∃ s,(execOp a.eval o).run P w=.halt s w ∧ ((∃ m,s=.stuck m) ∨ s=.unsupported .addressObserved):=by
 have ec:a.eval (.const (.int .i64 0))=.int .i64 0:=rfl
 rcases mul_int (P:=P) (t:=t) (a.eval (.tmp i)) with ⟨n,h⟩ | h
 · refine .inl ⟨n,h,?_⟩
   unfold execOp
   simp only [hop]
   rw [ec,h]
   simp [eqGuard,binOp,Op.intArith]
 · refine .inr fun w => ?_
   obtain ⟨s,h1,h2⟩:=h w
   refine ⟨s,?_,h2⟩
   unfold execOp
   simp only [hop]
   rw [ec]
   simp [eqGuard,h1]
theorem realC {P:Program} {a:Act} {o:Oper} {i:Nat} {ts:Array TypeId} (hop:o.op=.call { callee:=.builtin .real,args:=#[.tmp i],argTypes:=ts }) :
   (∃ k x y,a.eval (.tmp i)=.complex k x y ∧ ∀ w,(execOp a.eval o).run P w=.ok (.value (.float k x)) w) ∨ ∀ w,∃ s,(execOp a.eval o).run P w=.halt s w ∧ ((∃ m,s=.stuck m) ∨ s=.unsupported .addressObserved):=by
 have yes:∀ (k:FloatKind) (x y:Nat) (t:TypeId),Builtin.real_ ts t #[.complex k x y]=pure (.float k x):=fun _ _ _ _ => rfl
 have no:∀ (v:Value) (t:TypeId),(∀ k x y,v ≠ .complex k x y) → ∃ m,Builtin.real_ ts t #[v]=stuck m:=fun v t h => by
   cases v <;> first
     | exact absurd rfl (h _ _ _)
     | exact ⟨_,rfl⟩
 have key:∀ w,(execOp a.eval o).run P w=(do pure (Next.value (← Builtin.real_ ts o.type #[a.eval (.tmp i)]))).run P w:=fun w => by
   unfold execOp
   simp only [hop]
   simp only [resolve,invoke,builtin,List.map_toArray,List.map_cons,List.map_nil,pure_bind]
 by_cases h:∃ k x y,a.eval (.tmp i)=.complex k x y
 · obtain ⟨k,x,y,h⟩:=h
   exact .inl ⟨k,x,y,h,fun w => by rw [key,h,yes]; simp⟩
 · obtain ⟨m,hm⟩:=no (a.eval (.tmp i)) o.type fun k x y e => h ⟨k,x,y,e⟩
   exact .inr fun w => ⟨.stuck m,by rw [key,hm]; simp,.inl ⟨_,rfl⟩⟩
theorem lssF {P:Program} {a:Act} {o:Oper} {i:Nat} {t t':TypeId} (hop:o.op=.binOp .lss t (.tmp i) (.const (.float .f32 0)) t') {k:FloatKind} {x:Nat} (hv:a.eval (.tmp i)=.float k x) :
   (k=.f32 ∧ ∃ v,∀ w,(execOp a.eval o).run P w=.ok (.value v) w) ∨ ∀ w,∃ s,(execOp a.eval o).run P w=.halt s w ∧ ((∃ m,s=.stuck m) ∨ s=.unsupported .addressObserved):=by
 have ec:a.eval (.const (.float .f32 0))=.float .f32 0:=rfl
 unfold execOp
 simp only [hop]
 rw [ec,hv]
 cases k with
 | f32 => exact .inl ⟨rfl,by simp [eqGuard,binOp,Op.floatCmp]⟩
 | f64 => exact .inr fun w => by simp [eqGuard,binOp]
theorem way_no {P:Program} {F:St → Prop} (hF:∀ x,F x → Pop x) {b:Frame} {a:Act} {ops:Array Oper} {i:Nat} {rest:List Nat} {k:List Item} {cs:List Frame} {V:World} {o:Oper} (ho:ops[i]?=some o) (hg:o.guard=none) (hk:b.kind ≠ .early)
   (hr:∀ w,∃ s,(execOp a.eval o).run P w=.halt s w ∧ ((∃ m,s=.stuck m) ∨ s=.unsupported .addressObserved)) (h:Bar.Way P F ⟨b.at a (.inRegion ops (i :: rest) :: k),cs,V⟩):False:=by
 have h1:=(way_oper hF ho hg hk (v:=undef) (.inr hr) h).1 V
 obtain ⟨s,h2,_⟩:=hr V
 rw [h1] at h2
 cases h2
noncomputable def vB:Code:=Vp.fT.body.getD .skip
noncomputable def vK:Code:=match vB with | .seq _ k => k | _ => .skip
theorem vB_is:vB=.seq (.region 90 Vp.guards false) vK:=by
 unfold vK vB
 rw [Vp.bodyT]
 cases h:Tryz.f29.body with
 | none => have:Tryz.f29.body.isNone=false:=by kernel_rfl
           rw [h] at this; cases this
 | some c => rfl
theorem vB_body:Vp.fT.body=some vB:=by
 unfold vB
 cases h:Vp.fT.body with
 | none =>
   rw [Vp.bodyT] at h
   have:Tryz.f29.body.isNone=false:=by kernel_rfl
   cases h':Tryz.f29.body with
   | none => rw [h'] at this; cases this
   | some c => rw [h'] at h; cases h
 | some c => rfl
def bV:Frame:={ fn:=11,tmps:=#[],todo:=[],defers:=[],mode:=.run,kind:=.normal }
theorem enter_v (p:Array Value):Frame.enter Vp.prog 11 p .normal=bV.at ⟨p ++ Array.replicate (81 - p.size) undef,[]⟩ [.code vB]:=by
 unfold Frame.enter
 rw [Vp.funcT]
 dsimp only [Option.map_some,Option.getD_some,Option.bind_some]
 rw [Vp.ntmpsT,vB_body]
 rfl
theorem shape_of {F:St → Prop} (hF:∀ x,F x → Pop x) {p:Array Value} (hs:p.size=4) {cs:List Frame} {V:World} (h:Bar.Way Vp.prog F ⟨Frame.enter Vp.prog 11 p .normal,cs,V⟩) :
   ∃ (x y:Nat) (a b m:Int),p=#[.complex .f32 x y,.int .i64 a,.int .i64 b,.int .i64 m]:=by
 rw [enter_v,vB_is] at h
 have h:=way_ctl hF rfl stepG_seq h
 have h:=way_ctl hF rfl stepG_region h
 have hr:List.range Vp.guards.size=[0,1,2,3,4]:=rfl
 rw [hr] at h
 generalize hT:p ++ Array.replicate (81 - p.size) undef=T at h
 have hTs:T.size=81:=by rw [← hT]; simp; omega
 have hTk:∀ k,k < 4 → T[k]?=p[k]?:=fun k hk => by rw [← hT,Array.getElem?_append_left (by omega)]
 clear hT
 have hk:bV.kind ≠ .early:=by simp [bV]
 have ev:∀ (A:Act) (j:Nat),A.eval (.tmp j)=A.tmps.getD j undef:=fun A j => rfl
 obtain ⟨p0,e0⟩:∃ v,p[0]?=some v:=⟨_,Array.getElem?_eq_getElem (by omega)⟩
 obtain ⟨p1,e1⟩:∃ v,p[1]?=some v:=⟨_,Array.getElem?_eq_getElem (by omega)⟩
 obtain ⟨p2,e2⟩:∃ v,p[2]?=some v:=⟨_,Array.getElem?_eq_getElem (by omega)⟩
 obtain ⟨p3,e3⟩:∃ v,p[3]?=some v:=⟨_,Array.getElem?_eq_getElem (by omega)⟩
 have hp:p=#[p0,p1,p2,p3]:=by
   apply Array.ext_getElem?
   intro i
   match i with
   | 0 => exact e0
   | 1 => exact e1
   | 2 => exact e2
   | 3 => exact e3
   | i + 4 => rw [Array.getElem?_eq_none (by omega)]; rfl
 have gt:∀ (A:Act) (j:Nat) (v:Value),A.tmps[j]?=some v → A.eval (.tmp j)=v:=fun A j v hv => by rw [ev,Array.getD_eq_getD_getElem?,hv]; rfl
 
 rcases realC (P:=Vp.prog) (a:=⟨T,[]⟩) (o:=Vp.guards[0]) (i:=0) rfl with ⟨k,x,y,v0,r0⟩ | r0
 case inr => exact (way_no hF (ops:=Vp.guards) (i:=0) rfl rfl hk r0 h).elim
 have h:=(way_oper hF (ops:=Vp.guards) (i:=0) rfl rfl hk (.inl r0) h).2
 have z0:p0=.complex k x y:=by rw [← v0]; exact (gt _ _ _ ((hTk 0 (by decide)).trans e0)).symm
 have hd0:Vp.guards[0].dst=some 76:=rfl
 rw [hd0] at h
 
 have s1:(⟨T,[]⟩:Act).put (some 76) (.float k x)=⟨T.setIfInBounds 76 (.float k x),[]⟩:=rfl
 rw [s1] at h
 rcases lssF (P:=Vp.prog) (a:=⟨T.setIfInBounds 76 (.float k x),[]⟩) (o:=Vp.guards[1]) (i:=76) rfl (gt _ 76 (.float k x) (Array.getElem?_setIfInBounds_self_of_lt (by omega))) with ⟨rfl,v1,r1⟩ | r1
 case inr => exact (way_no hF (ops:=Vp.guards) (i:=1) rfl rfl hk r1 h).elim
 have h:=(way_oper hF (ops:=Vp.guards) (i:=1) rfl rfl hk (.inl r1) h).2
 have hd1:Vp.guards[1].dst=some 80:=rfl
 rw [hd1] at h
 have s2:(⟨T.setIfInBounds 76 (.float .f32 x),[]⟩:Act).put (some 80) v1=⟨(T.setIfInBounds 76 (.float .f32 x)).setIfInBounds 80 v1,[]⟩:=rfl
 rw [s2] at h
 generalize hU:(T.setIfInBounds 76 (.float .f32 x)).setIfInBounds 80 v1=U at h
 have hUk:∀ j,j < 4 → U[j]?=T[j]?:=fun j hj => by rw [← hU,Array.getElem?_setIfInBounds_ne (by omega),Array.getElem?_setIfInBounds_ne (by omega)]
 clear hU
 
 rcases mulI (P:=Vp.prog) (a:=⟨U,[]⟩) (o:=Vp.guards[2]) (i:=1) rfl with ⟨a,va,u2,r2⟩ | r2
 case inr => exact (way_no hF (ops:=Vp.guards) (i:=2) rfl rfl hk r2 h).elim
 have h:=(way_oper hF (ops:=Vp.guards) (i:=2) rfl rfl hk (.inl r2) h).2
 have hd2:Vp.guards[2].dst=some 77:=rfl
 rw [hd2] at h
 have s3:(⟨U,[]⟩:Act).put (some 77) u2=⟨U.setIfInBounds 77 u2,[]⟩:=rfl
 rw [s3] at h
 rcases mulI (P:=Vp.prog) (a:=⟨U.setIfInBounds 77 u2,[]⟩) (o:=Vp.guards[3]) (i:=2) rfl with ⟨b,vb,u3,r3⟩ | r3
 case inr => exact (way_no hF (ops:=Vp.guards) (i:=3) rfl rfl hk r3 h).elim
 have h:=(way_oper hF (ops:=Vp.guards) (i:=3) rfl rfl hk (.inl r3) h).2
 have hd3:Vp.guards[3].dst=some 78:=rfl
 rw [hd3] at h
 have s4:(⟨U.setIfInBounds 77 u2,[]⟩:Act).put (some 78) u3=⟨(U.setIfInBounds 77 u2).setIfInBounds 78 u3,[]⟩:=rfl
 rw [s4] at h
 rcases mulI (P:=Vp.prog) (a:=⟨(U.setIfInBounds 77 u2).setIfInBounds 78 u3,[]⟩) (o:=Vp.guards[4]) (i:=3) rfl with ⟨m,vm,u4,r4⟩ | r4
 case inr => exact (way_no hF (ops:=Vp.guards) (i:=4) rfl rfl hk r4 h).elim
 have z1:p1=.int .i64 a:=by rw [← va]; exact (gt _ _ _ ((hUk 1 (by decide)).trans ((hTk 1 (by decide)).trans e1))).symm
 have z2:p2=.int .i64 b:=by rw [← vb]; exact (gt _ _ _ ((Array.getElem?_setIfInBounds_ne (by decide)).trans ((hUk 2 (by decide)).trans ((hTk 2 (by decide)).trans e2)))).symm
 have z3:p3=.int .i64 m:=by rw [← vm]; exact (gt _ _ _ ((Array.getElem?_setIfInBounds_ne (by decide)).trans ((Array.getElem?_setIfInBounds_ne (by decide)).trans ((hUk 3 (by decide)).trans ((hTk 3 (by decide)).trans e3))))).symm
 exact ⟨x,y,a,b,m,by rw [hp,z0,z1,z2,z3]⟩
end Go.Proofs.YtokbalggdhippaaGreat
end
