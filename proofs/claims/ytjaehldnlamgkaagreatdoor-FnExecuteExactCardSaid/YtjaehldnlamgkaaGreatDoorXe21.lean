import Derived.Test.YtjaehldnlamgkaaGreatDoorXe20
import Derived.Test.YtjaehldnlamgkaaGreatDoorXe0
import Derived.Test.YtjaehldnlamgkaaGreatDoorXeK
set_option linter.all false
set_option maxHeartbeats 16000000
set_option maxRecDepth 100000
namespace Go.Proofs.YtjaehldnlamgkaaGreatDoor
section
open Go.RowKit Flo
theorem Pe (z:Nat)(w:World):(callFunc 98 #[.float .f64 z]).run Vp.prog w=.ok (.value (.int .u64 z)) w:=by
 kernel_rfl
theorem Ln (z:Nat)(w:World):(callFunc 103 #[.int .u64 z]).run Vp.prog w=.ok (.value (.float .f64 z)) w:=by
 kernel_rfl
theorem A5o (z y:Nat)(hy:bits .andNot .u64 (z:Int) 9223372036854775808=(y:Int))(w:World):Calls Vp.prog 97 #[.float .f64 z] w fun e w'=>e=.returned (.float .f64 y)/\w'=w:=by
 have b1:=fun w=>Pe z w
 have b3:=fun w=>Ln y w
 go_enter Vp.func97,Tryz.ntmps97
 go_wp2
 go_ret
 exact⟨rfl,rfl⟩
theorem A7x (z y:Nat)(hy:bits .andNot .u64 (z:Int) 9223372036854775808=(y:Int))(h:(FloatKind.f64.format.order y 9218868437227405311 == some .gt)=false)(w:World):Calls Vp.prog 55 #[.float .f64 z,.int .i64 0] w fun e w'=>e=.returned (.bool false)/\w'=w:=by
 have HB:=Aly (fun w=>A5o z y hy w)
 clear hy
 go_enter Vp.func55,Tryz.ntmps55
 go_wp2_with (go_at_call 97;refine(HB.out _).mono ?_;rintro e w' ⟨rfl,rfl⟩)
 go_ret
 exact⟨rfl,rfl⟩
theorem A7y (z:Nat)(h:(FloatKind.f64.format.order z z != some .eq)=false)(w:World):Calls Vp.prog 54 #[.float .f64 z] w fun e w'=>e=.returned (.bool false)/\w'=w:=by
 go_enter Vp.func54,Tryz.ntmps54
 go_wp2
 go_ret
 exact⟨rfl,rfl⟩
theorem Abi (z y:Nat)(hy:bits .andNot .u64 (z:Int) 9223372036854775808=(y:Int))(h:(FloatKind.f64.format.order y 4503599627370496 == some .lt)=false)(w:World):Calls Vp.prog 100 #[.float .f64 z] w fun e w'=>e=.returned (.tuple #[.float .f64 z,.int .i64 0])/\w'=w:=by
 have HB:=Aly (fun w=>A5o z y hy w)
 clear hy
 go_enter Vp.func100,Tryz.ntmps100
 go_wp2_with (go_at_call 97;refine(HB.out _).mono ?_;rintro e w' ⟨rfl,rfl⟩)
 go_ret2
 exact⟨rfl,rfl⟩
theorem A84 (f E y X z:Nat)(e:Int)(hy:bits .andNot .u64 (f:Int) 9223372036854775808=(y:Int))(hinf:(FloatKind.f64.format.order y 9218868437227405311 == some .gt)=false)
 (hnan:(FloatKind.f64.format.order f f != some .eq)=false) (hnorm:(FloatKind.f64.format.order y 4503599627370496 == some .lt)=false) (h0:(FloatKind.f64.format.order f 0 == some .eq)=false)
 (he:-100<=e) (he1:e<=0) (hE:bits .and .i64 (wrap64 ((f:Int) / 4503599627370496)) 2047=(E:Int)) (hE1:E<=2000) (hE2:-1022<=e +((E:Int)-1023)) (hE3:e +((E:Int)-1023)<=1023) (hX:bits .or .u64 (bits .andNot .u64 (f:Int) 9218868437227405312) ((e +((E:Int)-1023)+1023)*4503599627370496)=(X:Int)) (hz:floatBits .mul .f64 4607182418800017408 X=some z) (w:World) :
 Calls Vp.prog 66 #[.float .f64 f,.int .i64 e] w fun e w'=>e=.returned (.float .f64 z)/\w'=w:=by
 have HI:=Aly (A7x f y hy hinf);have HN:=Aly (A7y f hnan);have HM:=Aly (Abi f y hy hnorm);have b1:=fun w=>Pe f w
 have b3:=fun w=>Ln X w
 have b4:∀w:World,(binOp .mul 57 (.float .f64 4607182418800017408) (.float .f64 X)).run Vp.prog w=.ok (.float .f64 z) w:=fun w=>Amz w .mul _ .f64 _ _ _ hz
 clear hy hinf hnan hnorm
 go_enter Vp.func66,Tryz.ntmps66
 go_wp2_with (first
  |(go_at_call 55;refine(HI.out _).mono ?_;rintro e w' ⟨rfl,hw⟩;rw[hw];clear hw)
  |(go_at_call 54;refine(HN.out _).mono ?_;rintro e w' ⟨rfl,hw⟩;rw[hw];clear hw)
  |(go_at_call 100;refine(HM.out _).mono ?_;rintro e w' ⟨rfl,hw⟩;rw[hw];clear hw))
 go_ret
 exact⟨rfl,rfl⟩
theorem A1i (f:Nat)(e:Int)(h0:(FloatKind.f64.format.order f 0 == some .eq)=true)(w:World):Calls Vp.prog 66 #[.float .f64 f,.int .i64 e] w fun e w'=>e=.returned (.float .f64 f)/\w'=w:=by
 go_enter Vp.func66,Tryz.ntmps66
 go_wp2
 go_ret
 exact⟨rfl,rfl⟩
def Zi (n:Int)(l:Nat):Option Nat :=
 let f:=floatOfInt .f64 n
 if FloatKind.f64.format.order f 0 == some .eq then some f else
 let y:=(bits .andNot .u64 (f:Int) 9223372036854775808).toNat
 let E:=(bits .and .i64 (wrap64 ((f:Int) / 4503599627370496)) 2047).toNat
 let X:=(bits .or .u64 (bits .andNot .u64 (f:Int) 9218868437227405312) ((-(l:Int) +((E:Int)-1023)+1023)*4503599627370496)).toNat
 if(bits .andNot .u64 (f:Int) 9223372036854775808 ==(y:Int)) && !(FloatKind.f64.format.order y 9218868437227405311 == some .gt) && !(FloatKind.f64.format.order f f != some .eq) && !(FloatKind.f64.format.order y 4503599627370496 == some .lt) &&
  decide (l<=60) && (bits .and .i64 (wrap64 ((f:Int) / 4503599627370496)) 2047 ==(E:Int)) && decide (E<=2000) && decide (-1022<=-(l:Int) +((E:Int)-1023)) && decide (-(l:Int) +((E:Int)-1023)<=1023) &&
  (bits .or .u64 (bits .andNot .u64 (f:Int) 9218868437227405312) ((-(l:Int) +((E:Int)-1023)+1023)*4503599627370496) ==(X:Int))
 then floatBits .mul .f64 4607182418800017408 X else none
theorem A49 (n:Int)(l z:Nat)(h:Zi n l=some z)(w:World):Calls Vp.prog 66 #[.float .f64 (floatOfInt .f64 n),.int .i64 (-(l:Int))] w fun e w'=>e=.returned (.float .f64 z)/\w'=w:=by
 unfold Zi at h;simp only at h
 split at h
 ·rename_i h0
  obtain rfl:=Aml h
  exact A1i _ _ h0 w
 ·rename_i h0
  split at h
  ·rename_i hc
   simp only[Am8,Aqw,Apf,Amt]at hc;obtain⟨⟨⟨⟨⟨⟨⟨⟨⟨a1,a2⟩,a3⟩,a4⟩,a5⟩,a6⟩,a7⟩,a8⟩,a9⟩,a10⟩:=hc
   exact A84 _ _ _ _ z _ a1 a2 a3 a4 (by simpa using h0) (by omega) (by omega) a6 a7 a8 a9 a10 h w
  ·cases h
theorem Px (n:Int)(l z:Nat)(h:Zi n l=some z)(w:World):Calls Vp.prog 26 #[.float .f64 (floatOfInt .f64 n),.int .i64 (-(l:Int))] w fun e w'=>e=.returned (.float .f64 z)/\w'=w:=by
 have H:=Aly (A49 n l z h);generalize floatOfInt .f64 n=f at *;generalize -(l:Int)=e at *;clear h
 go_enter Vp.func26,Tryz.ntmps26
 go_wp2_with (go_at_call 66;refine(H.out _).mono ?_;rintro e w' ⟨rfl,hw⟩;rw[hw];clear hw)
 go_ret
 exact⟨rfl,rfl⟩
theorem K0 (a b:Int)(l u v:Nat)(hd:Br a b l=true)(hu:Zi a l=some u)(hv:Zi b l=some v)(w:World) :
 Calls Vp.prog 6 #[.agg #[.int .i64 a,.int .i64 b,.int .i64 l]] w fun e w'=>e=.returned (.tuple #[.complex .f64 u v,.bool true])/\Below w.heap.size w w':=by
 have HV:=Aly (fun w=>A30 a b l hd w)
 have HU:=Aly (Px a l u hu);have HV2:=Aly (Px b l v hv);have X:=A7.new w #[.int .i64 a,.int .i64 b,.int .i64 l] 24;have HX:=Aly X;obtain⟨c0,c1,c2⟩:=X.C5;have hb:=Rw hd;have HA:∀w:World,(convert 3 57 (.int .i64 a)).run Vp.prog w=.ok (.float .f64 (floatOfInt .f64 a)) w:=fun w=>by kernel_rfl
 have HB:∀w:World,(convert 3 57 (.int .i64 b)).run Vp.prog w=.ok (.float .f64 (floatOfInt .f64 b)) w:=fun w=>by kernel_rfl
 generalize floatOfInt .f64 a=fa at *;generalize floatOfInt .f64 b=fb at *;clear X hu hv hd
 go_enter Vp.func6,Tryz.ntmps6
 go_wp2_with fail
 refine(HV.out _).mono ?_
 rintro e w1 ⟨rfl,hb1⟩;obtain⟨d0,d1,d2⟩:=(HX.out.step hb1).C5;have HO:=Aly (HX.out.step hb1).old;clear c0 c1 c2 hb1 HX HV
 go_wp2_with fail
 refine(HU.out _).mono ?_
 rintro e w2 ⟨rfl,hw⟩;rw[hw];clear hw
 go_wp2_with fail
 refine(HV2.out _).mono ?_
 rintro e w2 ⟨rfl,hw⟩;rw[hw];clear hw
 go_wp2
 go_ret2
 exact⟨rfl,HO.out⟩
end
section
open Go.RowKit Flo
def Yc (n:Int):Nat->Option Nat
 | 0=>some (floatOfInt .f64 n)
 | k+1=>(Yc n k).bind fun x=>floatBits .quo .f64 x 4611686018427387904
theorem A1a (n:Int):∀(l k:Nat) (z:Nat),Yc n (k+l)=some z->∃x,Yc n k=some x
 | 0,k,z,h=>⟨z,h⟩
 | l+1,k,z,h=>by
   rw[<-Nat.add_assoc]at h;unfold Yc at h;obtain⟨x,hx,_⟩:=Ap1.1 h
   exact A1a n l k x hx
theorem Su (n:Int)(l z:Nat)(h:Yc n l=some z)(hl:l<=60)(w:World):Calls Vp.prog 28 #[.int .i64 n,.int .i64 l] w fun e w'=>e=.returned (.float .f64 z)/\w'=w:=by
 have H:=Aly h;have HA:∀w:World,(convert 3 57 (.int .i64 n)).run Vp.prog w=.ok (.float .f64 (floatOfInt .f64 n)) w:=fun w=>by kernel_rfl
 have H0:Hid (Yc n 0=some (floatOfInt .f64 n)):=rfl;clear h
 go_enter Vp.func28,Tryz.ntmps28
 go_wp2
 generalize floatOfInt .f64 n=f0 at *
 go_loopw [5,6] (fun v i wr=>∃(k x:Nat),k<=l/\i=.int .i64 k/\v=.float .f64 x/\Hid (Yc n k=some x)/\wr=w) (fun _ i _=>l-(intOf i).toNat)
 case atStart=>exact⟨0,f0,Amu _,rfl,rfl,H0,rfl⟩
 case round =>
  obtain⟨k,x,hk,rfl,rfl,HX,rfl⟩:=hrel;clear HA
  by_cases hkl:k<l
  ·obtain⟨y,hy⟩:∃y,Yc n (k+1)=some y:=A1a n (l-(k+1)) (k+1) z (by rw[show k+1 +(l-(k+1))=l by omega];exact H.out)
   have hq:floatBits .quo .f64 x 4611686018427387904=some y:=by
    unfold Yc at hy;rw[HX.out]at hy
    exact hy
   have HY:=Aly hy;have b4:∀w:World,(binOp .quo 57 (.float .f64 x) (.float .f64 4611686018427387904)).run Vp.prog w=.ok (.float .f64 y) w:=fun w=>Amz w .quo _ .f64 _ _ _ hq
   clear hy hq
   go_wp2
   exact⟨⟨k+1,y,by omega,by go_num,rfl,HY,trivial⟩,by simp[intOf];omega⟩
  ·obtain rfl:k=l:=by omega
   obtain rfl:x=z:=Aml (HX.out.symm.trans H.out)
   go_wp2
   go_ret
   exact⟨rfl,rfl⟩
theorem tm2 (x:Int):x.tmod 2=0↔x % 2=0:=by rw[<-Int.dvd_iff_tmod_eq_zero,<-Int.dvd_iff_emod_eq_zero]
theorem Nu (a b s:Int)(ha:a.natAbs<=4611686018427387904)(hb:b.natAbs<=4611686018427387904)(hs:s.natAbs<=1000)(w:World) :
 Calls Vp.prog 27 #[.agg #[.int .i64 a,.int .i64 b,.int .i64 s]] w fun e w'=>e=.returned (.bool (Br a b s))/\Below w.heap.size w w':=by
 have X:=A7.new w #[.int .i64 a,.int .i64 b,.int .i64 s] 24;obtain⟨c0,c1,c2⟩:=X.C5;have HB:=Aly X.old;clear X;obtain⟨p1,hp1⟩:∃p,H5 a (-1073741824) 1073741824=p:=⟨_,rfl⟩;obtain⟨p2,hp2⟩:∃p,H5 b (-1073741824) 1073741824=p:=⟨_,rfl⟩;obtain⟨p3,hp3⟩:∃p,H5 s 0 60=p:=⟨_,rfl⟩;have H1:Hid (∀w,Calls Vp.prog 67 #[.int .i64 a,.int .i64 (-1073741824),.int .i64 1073741824] w fun e w'=>e=.returned (.bool p1)/\w'=w):=fun w=>(Cr a (-1073741824) 1073741824 w).mono (by rintro e w' ⟨rfl,rfl⟩;rw[hp1];exact⟨rfl,rfl⟩)
 have H2:Hid (∀w,Calls Vp.prog 67 #[.int .i64 b,.int .i64 (-1073741824),.int .i64 1073741824] w fun e w'=>e=.returned (.bool p2)/\w'=w):=fun w=>(Cr b (-1073741824) 1073741824 w).mono (by rintro e w' ⟨rfl,rfl⟩;rw[hp2];exact⟨rfl,rfl⟩)
 have H3:Hid (∀w,Calls Vp.prog 67 #[.int .i64 s,.int .i64 0,.int .i64 60] w fun e w'=>e=.returned (.bool p3)/\w'=w):=fun w=>(Cr s 0 60 w).mono (by rintro e w' ⟨rfl,rfl⟩;rw[hp3];exact⟨rfl,rfl⟩)
 have hD:p1=false\/p2=false\/p3=false->Br a b s=false:=fun h=>Ol (by
  rw[<-hp1,<-hp2,<-hp3]at h;simp only[H5,Bool.and_eq_false_iff,Apv]at h
  omega)
 have hT:p1=true->p2=true->p3=true->Br a b s=(decide (s=0) || !decide (a % 2=0/\b % 2=0)):=fun h1 h2 h3=>by
  rw[<-hp1]at h1;rw[<-hp2]at h2;rw[<-hp3]at h3;simp only[H5,Am8,Amt]at h1 h2 h3;unfold Br Gk;rw[An0 (by omega),Aq7]
 have HT:=Aly hT;have HD:=Aly hD;clear hp1 hp2 hp3 hD hT
 cases p1 with
 | false =>
   rw[HD.out (.inl rfl)]
   go_enter Vp.func27,Tryz.ntmps27
   go_wp2_with (first |(go_at_call 67;with_reducible refine(H1.out _).mono ?_;rintro e w' ⟨rfl,hw⟩;rw[hw];clear hw) |(go_at_call 67;with_reducible refine(H2.out _).mono ?_;rintro e w' ⟨rfl,hw⟩;rw[hw];clear hw) |(go_at_call 67;with_reducible refine(H3.out _).mono ?_;rintro e w' ⟨rfl,hw⟩;rw[hw];clear hw))
   go_ret
   exact⟨rfl,HB.out⟩
 | true =>
   cases p2 with
   | false =>
     rw[HD.out (.inr (.inl rfl))]
     go_enter Vp.func27,Tryz.ntmps27
     go_wp2_with (first |(go_at_call 67;with_reducible refine(H1.out _).mono ?_;rintro e w' ⟨rfl,hw⟩;rw[hw];clear hw) |(go_at_call 67;with_reducible refine(H2.out _).mono ?_;rintro e w' ⟨rfl,hw⟩;rw[hw];clear hw) |(go_at_call 67;with_reducible refine(H3.out _).mono ?_;rintro e w' ⟨rfl,hw⟩;rw[hw];clear hw))
     go_ret
     exact⟨rfl,HB.out⟩
   | true =>
     cases p3 with
     | false =>
       rw[HD.out (.inr (.inr rfl))]
       go_enter Vp.func27,Tryz.ntmps27
       go_wp2_with (first |(go_at_call 67;with_reducible refine(H1.out _).mono ?_;rintro e w' ⟨rfl,hw⟩;rw[hw];clear hw) |(go_at_call 67;with_reducible refine(H2.out _).mono ?_;rintro e w' ⟨rfl,hw⟩;rw[hw];clear hw) |(go_at_call 67;with_reducible refine(H3.out _).mono ?_;rintro e w' ⟨rfl,hw⟩;rw[hw];clear hw))
       go_ret
       exact⟨rfl,HB.out⟩
     | true =>
       rw[HT.out rfl rfl rfl]
       go_enter Vp.func27,Tryz.ntmps27
       go_wp2_with (first |(go_at_call 67;with_reducible refine(H1.out _).mono ?_;rintro e w' ⟨rfl,hw⟩;rw[hw];clear hw) |(go_at_call 67;with_reducible refine(H2.out _).mono ?_;rintro e w' ⟨rfl,hw⟩;rw[hw];clear hw) |(go_at_call 67;with_reducible refine(H3.out _).mono ?_;rintro e w' ⟨rfl,hw⟩;rw[hw];clear hw))
       ·have hs0:s=0:=by assumption
        subst hs0
        go_ret
        exact⟨by first|rfl |(show Ending.returned (Value.bool _)=_;simp),HB.out⟩
       ·have hs0:¬s=0:=by assumption
        have ha2:a.tmod 2=0:=by assumption
        go_ret
        refine⟨?_,HB.out⟩
        show Ending.returned (.bool (s == 0 || b.tmod 2 != 0))=_
        rw[tm2]at ha2
        have hb2:(b.tmod 2 != 0)=!decide (b % 2=0):=by
         by_cases h:b % 2=0
         ·simp[h,(tm2 b).2 h]
         ·have h':¬b.tmod 2=0:=fun e=>h ((tm2 b).1 e)
          simp[h,h']
        rw[hb2];simp[hs0,ha2]
       ·have hs0:¬s=0:=by assumption
        have ha2:¬a.tmod 2=0:=by assumption
        go_ret
        refine⟨?_,HB.out⟩
        show Ending.returned (.bool true)=_
        rw[tm2]at ha2;simp[hs0,ha2]
theorem Q7 (a b:Int)(l u v:Nat)(hd:Br a b l=true)(hu:Yc a l=some u)(hv:Yc b l=some v)(w:World) :
 Calls Vp.prog 7 #[.agg #[.int .i64 a,.int .i64 b,.int .i64 l]] w fun e w'=>e=.returned (.tuple #[.complex .f64 u v,.bool true])/\Below w.heap.size w w':=by
 have hb:=Rw hd
 have HV:Hid (∀w,Calls Vp.prog 27 #[.agg #[.int .i64 a,.int .i64 b,.int .i64 l]] w fun e w'=>e=.returned (.bool true)/\Below w.heap.size w w'):=fun w=>by
  have h:=Nu a b l (by omega) (by omega) (by omega) w
  rw[hd]at h
  exact h
 have HU:=Aly (Su a l u hu (by omega))
 have HV2:=Aly (Su b l v hv (by omega))
 have X:=A7.new w #[.int .i64 a,.int .i64 b,.int .i64 l] 24;have HX:=Aly X;obtain⟨c0,c1,c2⟩:=X.C5;clear X hu hv hd hb
 go_enter Vp.func7,Tryz.ntmps7
 go_wp2_with fail
 refine(HV.out _).mono ?_
 rintro e w1 ⟨rfl,hb1⟩;obtain⟨d0,d1,d2⟩:=(HX.out.step hb1).C5;have HO:=Aly (HX.out.step hb1).old;have hlt:w.heap.size<w1.heap.size:=(HX.out.step hb1).lt;clear c0 c1 c2 hb1 HX HV
 go_wp2
 go_region_held3 (fun w'=>w'.cell? ⟨w.heap.size,0,none⟩=some (.int .i64 a)/\w'.cell? ⟨w.heap.size,1,none⟩=some (.int .i64 b)/\w'.cell? ⟨w.heap.size,2,none⟩=some (.int .i64 l)) (go_keep) (first
  |(go_at_call 28;with_reducible refine(HU.out _).mono ?_;rintro e w' ⟨rfl,hw⟩;rw[hw];clear hw)
  |(go_at_call 28;with_reducible refine(HV2.out _).mono ?_;rintro e w' ⟨rfl,hw⟩;rw[hw];clear hw))
 all_goals
  go_wp2
  go_ret2
  exact⟨rfl,HO.out.drew⟩
theorem A12 (a b s:Int)(hd:Br a b s=false)(ha:a.natAbs<=4611686018427387904)(hb:b.natAbs<=4611686018427387904)(w:World) :
 Calls Vp.prog 6 #[.agg #[.int .i64 a,.int .i64 b,.int .i64 s]] w fun e w'=>e=.returned (.tuple #[.complex .f64 0 0,.bool false])/\Below w.heap.size w w':=by
 have HV:Hid (∀w,Calls Vp.prog 25 #[.agg #[.int .i64 a,.int .i64 b,.int .i64 s]] w fun e w'=>e=.returned (.bool false)/\Below w.heap.size w w'):=fun w=>by
  have h:=Ua a b s ha hb w;rw[hd]at h
  exact h
 have X:=A7.new w #[.int .i64 a,.int .i64 b,.int .i64 s] 24;have HX:=Aly X;obtain⟨c0,c1,c2⟩:=X.C5;clear X hd
 go_enter Vp.func6,Tryz.ntmps6
 go_wp2_with fail
 refine(HV.out _).mono ?_
 rintro e w1 ⟨rfl,hb1⟩;have HO:=Aly (HX.out.step hb1).old
 go_wp2
 go_ret2
 exact⟨rfl,HO.out⟩
theorem A29 (a b s:Int)(hd:Br a b s=false)(ha:a.natAbs<=4611686018427387904)(hb:b.natAbs<=4611686018427387904)(hs:s.natAbs<=1000)(w:World) :
 Calls Vp.prog 7 #[.agg #[.int .i64 a,.int .i64 b,.int .i64 s]] w fun e w'=>e=.returned (.tuple #[.complex .f64 0 0,.bool false])/\Below w.heap.size w w':=by
 have HV:Hid (∀w,Calls Vp.prog 27 #[.agg #[.int .i64 a,.int .i64 b,.int .i64 s]] w fun e w'=>e=.returned (.bool false)/\Below w.heap.size w w'):=fun w=>by
  have h:=Nu a b s ha hb hs w;rw[hd]at h
  exact h
 have X:=A7.new w #[.int .i64 a,.int .i64 b,.int .i64 s] 24;have HX:=Aly X;obtain⟨c0,c1,c2⟩:=X.C5;clear X hd
 go_enter Vp.func7,Tryz.ntmps7
 go_wp2_with fail
 refine(HV.out _).mono ?_
 rintro e w1 ⟨rfl,hb1⟩;have HO:=Aly (HX.out.step hb1).old
 go_wp2
 go_ret2
 exact⟨rfl,HO.out⟩
end
namespace Flo
open Go.RowKit Ieee
def Al (k:FloatKind)(x y:Nat):Prop:=x=y \/(nan k x=true/\nan k y=true)
theorem Al.refl (k:FloatKind)(x:Nat):Al k x x:=.inl rfl
theorem Al.order {k:FloatKind}{x y x' y':Nat}(h:Al k x x')(g:Al k y y'):k.format.order x y=k.format.order x' y':=by
 rcases h with rfl |⟨h1,h2⟩
 ·rcases g with rfl |⟨g1,g2⟩
  ·rfl
  ·rw[Jd x g1,Jd x g2]
 ·rw[Gt y h1,Gt y' h2]
theorem Gl {op:BinOp}{k:FloatKind}{x:Nat}(y:Nat)(h:nan k x=true):floatBits op k x y=none:=by
 unfold nan FloatKind.decode at h
 cases op<;>simp only[floatBits,Format.add,Format.sub,Format.mul,Format.div]
 all_goals cases hx:k.format.read x<;>simp_all [Datum.isNaN,Datum.sum,Datum.product,Datum.quotient]
theorem Fv {op:BinOp}{k:FloatKind}{y:Nat}(x:Nat)(h:nan k y=true):floatBits op k x y=none:=by
 unfold nan FloatKind.decode at h
 cases op<;>simp only[floatBits,Format.add,Format.sub,Format.mul,Format.div]
 all_goals cases hy:k.format.read y<;>simp_all [Datum.isNaN]
 all_goals cases hx:k.format.read x<;>simp[Datum.opposite,Datum.sum,Datum.product,Datum.quotient]
def Nf:FloatKind->Nat
 | .f32=>2143289344
 | .f64=>9221120237041090560
theorem E5 (k:FloatKind):nan k (Nf k)=true:=by cases k<;>decide
def C6 (op:BinOp)(k:FloatKind)(x y:Nat):Nat:=(floatBits op k x y).getD (Nf k)
theorem D5 {op:BinOp}{k:FloatKind}{x y x' y':Nat}(h:Al k x x')(g:Al k y y'):C6 op k x y=C6 op k x' y':=by
 rcases h with rfl |⟨h1,h2⟩
 ·rcases g with rfl |⟨g1,g2⟩
  ·rfl
  ·unfold C6;rw[Fv x g1,Fv x g2]
 ·unfold C6;rw[Gl y h1,Gl y' h2]
theorem Ads (k:FloatKind)(x y t:Nat):nan k ((Question.nanBits k x y).cut t)=true:=by
 cases k
 ·exact Wp _
 ·exact Wq _
theorem Be {P:Program}(op:BinOp)(hop:op=.add\/op=.sub\/op=.mul\/op=.quo)(t:TypeId)(k:FloatKind)(x y:Nat)(w:World) :
 ∃z w',(binOp op t (.float k x) (.float k y)).run P w=.ok (.float k z) w'/\z<2^k.format.width/\Bp w w'/\Al k (C6 op k x y) z:=by
 cases h:floatBits op k x y with
 | some r =>
   refine⟨r,w,Amz w op t k x y r h,?_,Bp.refl w,.inl ?_⟩
   ·have:=floatBits_wf h
    cases k<;>simpa [Lit.wf,Ze,Zf]using this
   ·unfold C6;rw[h];rfl
 | none =>
   refine⟨(Question.nanBits k x y).cut (w.tape w.drawn (Question.nanBits k x y)),w.drew,?_,?_,(Bp.refl w).drew,.inr ⟨?_,Ads _ _ _ _⟩⟩
   ·unfold floatBits at h
    rcases hop with rfl|rfl|rfl|rfl<;>simp only at h<;>simp[binOp,Op.floatArith,h]<;>(intro hf;simp[Question.forced]at hf)
   ·cases k
    ·exact A08 _ _ _
    ·exact A09 _ _ _
   ·unfold C6;rw[h];exact E5 k
theorem A4g {op:BinOp}{k:FloatKind}{x y:Nat}:C6 op k x y<2^k.format.width:=by
 unfold C6
 cases h:floatBits op k x y with
 | some r =>
   have:=floatBits_wf h
   cases k<;>simpa [Lit.wf,Ze,Zf]using this
 | none=>cases k<;>decide
end Flo
namespace Flo
open Go.RowKit Ieee
def H6:Nat:=776
theorem A64:H6=776:=rfl
def Qp:Nat:=298
def Wh:Nat:=1100
theorem Ab9:Wh=1100:=rfl
theorem Kv (f:Format){r q:Nat}(h:r<=q):rv f r<=rv f q:=by
 have m1:=Nq f r;have hb:=Cw f
 have hle:re f r<=re f q:=by
  unfold re;have:=Nat.div_le_div_right (c:=f.binade) h
  omega
 rcases Nat.eq_or_lt_of_le hle with e|hlt
 ·have:rm f r<=rm f q:=by unfold rm;rw[<-e];omega
  unfold rv;rw[<-e];exact Am3 _ this
 ·have hg:=Ww f q (by omega)
  unfold rv;have e1:rm f r*2^re f r <=(2*f.binade)*2^re f r:=Am3 _ (Apt m1)
  have e2:(2*f.binade)*2^re f r=f.binade*2^(re f r+1):=by
   rw[Ap9,An3 2 f.binade,Ams,An3 2]
  have e3:f.binade*2^(re f r+1)<=f.binade*2^re f q:=Ar1 _ (Amn (by omega) hlt)
  have e4:f.binade*2^re f q<=rm f q*2^re f q:=Am3 _ hg
  omega
theorem Me {f:Format}{s:Bool}{mag:Nat}{place:Int}{r a b:Nat}(hr:r<f.infRung)(hp:place-f.leastPlace=(a:Int)-b)(h:mag*2^a<=rv f r*2^b) :
 Cf f (f.nearest s mag place) (iv f (f.nearest s mag place)) /\(iv f (f.nearest s mag place)).natAbs<=rv f r:=by
 have h1:=Yn (neg:=s) hp h;have hw:=Nd f s (rnd f s mag place) (by omega)
 refine⟨⟨Format.nearest_lt _ _ _ _,?_,rfl⟩,?_⟩
 ·rw[Cl];exact hw.1
 ·rw[Cl,hw.2,natAbs_sign];exact Kv f h1
theorem Aic {f:Format}{s t:Bool}{m n i j r:Nat}{a b:Int}(hi:signed s m i=a)(hj:signed t n j=b)(hr:r<f.infRung)(h:(a+b).natAbs<=rv f r) :
 ∃z,((Datum.number s m (f.leastPlace+i)).sum (Datum.number t n (f.leastPlace+j))).map f.write=some z/\Cf f z (iv f z) /\(iv f z).natAbs<=rv f r:=by
 simp only[Datum.sum,Ao6,Format.write]
 refine⟨_,rfl,?_⟩
 obtain⟨c,hc⟩:∃c:Nat,min (f.leastPlace +(i:Int)) (f.leastPlace +(j:Int))=f.leastPlace+c:=⟨min i j,by omega⟩
 rw[hc];obtain⟨i',hi'⟩:∃i',i=i'+c:=⟨i-c,by omega⟩
 obtain⟨j',hj'⟩:∃j',j=j'+c:=⟨j-c,by omega⟩
 have e1:(f.leastPlace +(i:Int)-(f.leastPlace+c)).toNat=i':=by omega
 have e2:(f.leastPlace +(j:Int)-(f.leastPlace+c)).toNat=j':=by omega
 rw[e1,e2];rw[hi',Bn]at hi;rw[hj',Bn]at hj;generalize signed s m i'=p at *;generalize signed t n j'=q at *;have hsum:(p+q) *(2^c:Nat)=a+b:=by rw[Apc,hi,hj]
 refine Me (a:=c) (b:=0) hr (by omega) ?_
 rw[<-hsum,Amq,Ame]at h;rw[Apr,Aqm]
 exact h
theorem Acu {f:Format}{x y r:Nat}{a b:Int}(hx:Cf f x a)(hy:Cf f y b)(hr:r<f.infRung)(h:(a-b).natAbs<=rv f r):∃z,f.sub x y=some z/\Cf f z (iv f z) /\(iv f z).natAbs<=rv f r:=by
 unfold Format.sub;rw[Ak hx.fin,Ak hy.fin];have hj:signed (!Gv f y) (rm f (A8 f y)) (re f (A8 f y))=-b:=by rw[A4t,Dg,hy.iv]
 exact Aic ((Dg f x).trans hx.iv) hj hr h
theorem Aid {f:Format}{s t:Bool}{m n i j r:Nat}{a b:Int}(hi:signed s m i=a)(hj:signed t n j=b)(hr:r<=f.infRung)(hr0:0<rv f r)(h:(rv f r:Int)<=a+b) :
 ∃q,((Datum.number s m (f.leastPlace+i)).sum (Datum.number t n (f.leastPlace+j))).map f.write=some (f.word false q)/\r<=q/\q<=f.infRung:=by
 simp only[Datum.sum,Ao6,Format.write];obtain⟨c,hc⟩:∃c:Nat,min (f.leastPlace +(i:Int)) (f.leastPlace +(j:Int))=f.leastPlace+c:=⟨min i j,by omega⟩
 rw[hc];obtain⟨i',hi'⟩:∃i',i=i'+c:=⟨i-c,by omega⟩
 obtain⟨j',hj'⟩:∃j',j=j'+c:=⟨j-c,by omega⟩
 have e1:(f.leastPlace +(i:Int)-(f.leastPlace+c)).toNat=i':=by omega
 have e2:(f.leastPlace +(j:Int)-(f.leastPlace+c)).toNat=j':=by omega
 rw[e1,e2];rw[hi',Bn]at hi;rw[hj',Bn]at hj;generalize signed s m i'=p at *;generalize signed t n j'=q at *;have hsum:(p+q) *(2^c:Nat)=a+b:=by rw[Apc,hi,hj]
 have hp:(0:Int) <(2^c:Nat):=by have:=Am9 c;omega
 have hpos:0<p+q:=by
  rcases Aoz 0 (p+q)with h2|h2
  ·exact h2
  ·have:=Int.mul_nonpos_of_nonpos_of_nonneg h2 (Apb hp);omega
 have hs:(if p+q=0 then s && t else decide (p+q<0))=false:=by
  rw[Amd (by omega)];simp;omega
 rw[hs,Cl]
 refine⟨_,rfl,Ym (a:=c) (b:=0) hr (by omega) ?_,Tn _ _ _ _⟩
 rw[Apr,Aqm]
 have:(((p+q).natAbs*2^c:Nat):Int)=a+b:=by
  rw[<-hsum,An2]
  congr 1
  omega
 omega
def r5:Nat:=4617315517961601024
theorem Ii:rv double r5=5*2^u64:=by kernel_rfl
theorem Sj:r5<double.infRung:=by decide
theorem Agv:Cf double 4616189618054758400 ((4:Int) *(2^u64:Nat)):=by
 refine⟨by decide,by unfold fin;decide,?_⟩
 unfold iv;rw[Amd (by decide)]
 have:rv double (A8 double 4616189618054758400)=4*2^u64:=by kernel_rfl
 rw[this];simp
def s5:Nat:=1084227584
theorem Vw:rv single s5=5*2^u32:=by kernel_rfl
theorem Sk:s5<single.infRung:=by decide
def Py (n:Nat):Bool:=FloatKind.f64.format.order n 4616189618054758400 == some .lt || FloatKind.f64.format.order n 4616189618054758400 == some .eq
theorem R6 {n:Nat}(h:nan .f64 n=true):Py n=false:=by unfold Py;rw[Gt _ h];rfl
theorem A66:Py 9218868437227405312=false:=by decide
theorem Zo {x y:Nat}{a b:Int}(hx:Cf double x a)(hy:Cf double y b)(h:((5*2^u64:Nat):Int)<=a+b):Py (C6 .add .f64 x y)=false:=by
 obtain⟨q,hq,h1,h2⟩:=Aid (f:=double) (r:=r5) ((Dg double x).trans hx.iv) ((Dg double y).trans hy.iv) (Apt Sj) (by rw[Ii];have:=Am9 u64;omega) (by rw[Ii];exact h)
 have e:floatBits .add .f64 x y=some (double.word false q):=by
  show(double.add x y)=_
  unfold Format.add;rw[Ak hx.fin,Ak hy.fin]
  exact hq
 unfold C6;rw[e,Aqn]
 rcases Nat.eq_or_lt_of_le h2 with e2|hlt
 ·rw[e2];decide
 ·have hw:=Nd double false q hlt
  have wlt:double.word false q<2^double.width:=by
   have h9:double.infRung<2^double.width:=by decide
   show q<_
   omega
  have hv:Cf double (double.word false q) (rv double q:Int):=⟨wlt,hw.1,by rw[hw.2];simp⟩
  have hm:=Kv double h1;rw[Ii]at hm;have h4:=Agv;have hU:=Am9 u64;unfold Py;rw[show(FloatKind.f64.format.order (double.word false q) 4616189618054758400 == some .lt)=_ from G9 (k:=.f64) hv h4,show(FloatKind.f64.format.order (double.word false q) 4616189618054758400 == some .eq)=_ from D6 (k:=.f64) hv h4];generalize (2:Nat)^u64=U at *;simp
  omega
def A5 (x:Nat):Nat:=(floatToFloatBits .f32 x .f64).getD (Nf .f64)
def Ax (x:Nat):Nat:=(floatToFloatBits .f64 x .f32).getD (Nf .f32)
theorem Ds {s k:FloatKind}{x:Nat}(hne:s≠k)(h:nan s x=true):floatToFloatBits s x k=none:=by
 unfold nan at h;unfold floatToFloatBits;rw[Amd hne]
 cases hd:s.decode x<;>simp_all [Datum.isNaN]
theorem L3 {x y:Nat}(h:Al .f32 x y):A5 x=A5 y:=by
 rcases h with rfl |⟨h1,h2⟩
 ·rfl
 ·unfold A5;rw[Ds (by decide) h1,Ds (by decide) h2]
theorem Ik {x y:Nat}(h:Al .f64 x y):Ax x=Ax y:=by
 rcases h with rfl |⟨h1,h2⟩
 ·rfl
 ·unfold Ax;rw[Ds (by decide) h1,Ds (by decide) h2]
def Hp (x y:Nat):Nat:=C6 .sub .f64 (C6 .mul .f64 x x) (C6 .mul .f64 y y)
def Ho (x y:Nat):Nat:=C6 .mul .f64 4611686018427387904 (C6 .mul .f64 x y)
def Bj (x y:Nat):Nat:=C6 .add .f64 (C6 .mul .f64 x x) (C6 .mul .f64 y y)
theorem A69 {x:Nat}{s:Bool}(h:double.read x=.infinity s):C6 .mul .f64 x x=9218868437227405312:=by
 have e:floatBits .mul .f64 x x=some 9218868437227405312:=by
  show double.mul x x=_
  unfold Format.mul;rw[h]
  cases s<;>decide
 unfold C6;rw[e];rfl
theorem A14:double.read 9218868437227405312=.infinity false:=by decide
theorem Xh (y:Nat):Py (C6 .add .f64 9218868437227405312 y)=false:=by
 have e:floatBits .add .f64 9218868437227405312 y=some 9218868437227405312\/floatBits .add .f64 9218868437227405312 y=none:=by
  show double.add _ y=_\/double.add _ y=_
  unfold Format.add;rw[A14]
  cases double.read y with
  | nan _ _=>right;rfl
  | infinity t=>cases t<;>simp[Datum.sum]<;>decide
  | number _ _ _=>left;simp[Datum.sum];decide
 unfold C6
 rcases e with e|e
 ·rw[e];exact A66
 ·rw[e];exact R6 (E5 _)
theorem Un (x:Nat):Py (C6 .add .f64 x 9218868437227405312)=false:=by
 have e:floatBits .add .f64 x 9218868437227405312=some 9218868437227405312\/floatBits .add .f64 x 9218868437227405312=none:=by
  show double.add x _=_\/double.add x _=_
  unfold Format.add;rw[A14]
  cases double.read x with
  | nan _ _=>right;rfl
  | infinity t=>cases t<;>simp[Datum.sum]<;>decide
  | number _ _ _=>left;simp[Datum.sum];decide
 unfold C6
 rcases e with e|e
 ·rw[e];exact A66
 ·rw[e];exact R6 (E5 _)
theorem Io {op:BinOp}{k:FloatKind}{x:Nat}(y:Nat)(h:nan k x=true):C6 op k x y=Nf k:=by unfold C6;rw[Gl y h];rfl
theorem Ux {op:BinOp}{k:FloatKind}{y:Nat}(x:Nat)(h:nan k y=true):C6 op k x y=Nf k:=by unfold C6;rw[Fv x h];rfl
theorem Nb {x y:Nat}(h:Py (Bj (A5 x) (A5 y))=true):fin single x:=by
 rcases kinds single (by decide) x with hf |⟨s,hi⟩ |⟨s,t,hn⟩
 ·exact hf
 ·exfalso
  have e:A5 x=FloatKind.encode .f64 (.infinity s):=by
   unfold A5 floatToFloatBits;rw[Amd (by decide),show FloatKind.decode .f32 x=.infinity s from hi];rfl
  have er:double.read (A5 x)=.infinity s:=by rw[e];cases s<;>decide
  unfold Bj at h;rw[A69 er,Xh]at h
  cases h
 ·exfalso
  have hx:nan .f32 x=true:=by unfold nan;rw[show FloatKind.decode .f32 x=.nan s t from hn];rfl
  have e:A5 x=Nf .f64:=by unfold A5;rw[Ds (by decide) hx];rfl
  unfold Bj at h;rw[e,Io _ (E5 _),Io _ (E5 _),R6 (E5 _)]at h
  cases h
theorem Kn {x y:Nat}(h:Py (Bj (A5 x) (A5 y))=true):fin single y:=by
 rcases kinds single (by decide) y with hf |⟨s,hi⟩ |⟨s,t,hn⟩
 ·exact hf
 ·exfalso
  have e:A5 y=FloatKind.encode .f64 (.infinity s):=by
   unfold A5 floatToFloatBits;rw[Amd (by decide),show FloatKind.decode .f32 y=.infinity s from hi];rfl
  have er:double.read (A5 y)=.infinity s:=by rw[e];cases s<;>decide
  unfold Bj at h;rw[A69 er,Un]at h
  cases h
 ·exfalso
  have hx:nan .f32 y=true:=by unfold nan;rw[show FloatKind.decode .f32 y=.nan s t from hn];rfl
  have e:A5 y=Nf .f64:=by unfold A5;rw[Ds (by decide) hx];rfl
  unfold Bj at h;rw[e,Io (Nf .f64) (E5 _),Ux _ (E5 _),R6 (E5 _)]at h
  cases h
theorem Fq {x y X Y:Nat}{a b:Int}(hx:Cf single x a)(hy:Cf single y b)(hX:Cf double X (a *(2^Gg:Nat)))(hY:Cf double Y (b *(2^Gg:Nat))) :
 Cf double (C6 .mul .f64 X Y) (a*b *(2^H6:Nat)):=by
 have dx:=C9 hx;have dy:=C9 hy;have rx:=A1t (e:=254) hx.fin (by decide)
 have ry:=A1t (e:=254) hy.fin (by decide)
 have mx:=Nq single (A8 single x);have my:=Nq single (A8 single y);rw[Az]at mx my;generalize re single (A8 single x)=ex at *;generalize re single (A8 single y)=ey at *;generalize rm single (A8 single x)=px at *;generalize rm single (A8 single y)=py at *;have hm:px*py<2^24*2^24:=Nat.mul_lt_mul'' (by omega) (by omega)
 have hr:Pa double (a*b *(2^H6:Nat)):=by
  refine Yl (m:=px*py) (e:=ex+ey+H6) ?_ ?_ ?_ ?_
  ·rw[Amq,Amq,Ame,dx,dy,Amj,Amj];simp only[Ams,Aot]
  ·rw[Ai];omega
  ·show 52<=_;rw[A64];omega
  ·rw[Bf];exact Am3 _ (by rw[A64];omega)
 have hc:a *(2^Gg:Nat) *(b *(2^Gg:Nat))=a*b *(2^H6:Nat) *(2^u64:Nat):=by
  have e:((2^Gg:Nat):Int) *(2^Gg:Nat)=(2^H6:Nat) *(2^u64:Nat):=by
   rw[<-An2,<-An2,<-Amj,<-Amj,show Gg+Gg=H6+u64 from rfl]
  have e2:a *(2^Gg:Nat) *(b *(2^Gg:Nat))=a*b *((2^Gg:Nat) *(2^Gg:Nat)):=by
   rw[Ano,Ano,Int.mul_left_comm _ b]
  rw[e2,e,<-Ano]
 obtain⟨z,hz,hv⟩:=Hb (f:=double) Cj hX hY hc hr
 have:C6 .mul .f64 X Y=z:=by
  unfold C6;rw[show floatBits .mul .f64 X Y=some z from hz];rfl
 rw[this];exact hv
theorem Wr {z:Nat}(hz:Cf double z (iv double z))(hb:(iv double z).natAbs<=5*2^u64):∃u,floatToFloatBits .f64 z .f32=some u:=by
 have hd:=C9 hz
 have hn:=Me (f:=single) (s:=Gv double z) (mag:=rm double (A8 double z)) (place:=double.leastPlace+re double (A8 double z)) (r:=s5) (a:=re double (A8 double z)) (b:=Gg) Sk (by rw[Ga,G7,P8];omega) (by
  rw[Vw,<-hd];have:5*2^u32*2^Gg=5*2^u64:=by rw[Ams,<-Amj,show u32+Gg=u64 from rfl]
  rw[this];exact hb)
 unfold floatToFloatBits;rw[Amd (by decide)]
 have hdec:FloatKind.decode .f64 z=.number (Gv double z) (rm double (A8 double z)) (double.leastPlace+re double (A8 double z)):=Ak hz.fin;rw[hdec];have hni:(FloatKind.decode .f32 (FloatKind.encode .f32 (.number (Gv double z) (rm double (A8 double z)) (double.leastPlace+re double (A8 double z))))).isInfinity=false:=Zb (k:=.f32) hn.1;simp only[hni]
 exact⟨_,rfl⟩
theorem A6i {p:Nat}{v:Int}(h:Cf double p v)(hb:(2*v).natAbs<=5*2^u64):Pa double (2*v):=by
 have hd:=C9 h;have hm:=Nq double (A8 double p)
 have hre:re double (A8 double p)<=Wh:=by
  rcases Aqs Wh (re double (A8 double p))with h1|h1
  ·exfalso
   have hg:=Ww double (A8 double p) (by omega)
   rw[Ai]at hg;have h2:2^Wh<=2^re double (A8 double p):=Amn (by omega) (by omega)
   have h3:=Ap4 (show 1<=rm double (A8 double p) by omega) h2
   have h4:2^Wh=2^26*2^u64:=by rw[<-Amj,show 26+u64=Wh from rfl]
   rw[Amq,hd]at hb;rw[h4]at h3;have hU:=Am9 u64;generalize (2:Nat)^u64=U at *;simp at hb
   omega
  ·exact h1
 refine He (m:=rm double (A8 double p)) (e:=re double (A8 double p)+1) ?_ hm ?_
 ·rw[Amq,hd,Ap9]
  show 2*_=_
  rw[An3 2,Ams]
 ·rw[Bf];exact Am3 _ (by rw[Ab9]at hre;omega)
theorem sq_pos (a:Int):0<=a*a:=by
 rcases Apa 0 a with h|h
 ·exact Anl h h
 ·exact Int.mul_nonneg_of_nonpos_of_nonpos h h
theorem A6o {x y:Nat}(hx:x<4294967296)(hy:y<4294967296)(h:Py (Bj (A5 x) (A5 y))=true) :
 (∃u,floatToFloatBits .f64 (Hp (A5 x) (A5 y)) .f32=some u) /\(∃v,floatToFloatBits .f64 (Ho (A5 x) (A5 y)) .f32=some v):=by
 have vx:Cf single x (iv single x):=⟨hx,Nb h,rfl⟩;have vy:Cf single y (iv single y):=⟨hy,Kn h,rfl⟩;obtain⟨X,eX,vX⟩:=Di vx;obtain⟨Y,eY,vY⟩:=Di vy;have wx:A5 x=X:=by unfold A5;rw[eX];rfl
 have wy:A5 y=Y:=by unfold A5;rw[eY];rfl
 rw[wx,wy]at h ⊢;have pxx:=Fq vx vx vX vX;have pyy:=Fq vy vy vY vY;have pxy:=Fq vx vy vX vY;have eK:(5*2^u64:Nat)=5*2^Qp*2^H6:=by rw[Ams,<-Amj,show Qp+H6=u64 from rfl]
 have hsum:iv single x*iv single x+iv single y*iv single y <((5*2^Qp:Nat):Int):=by
  rcases Aoz (iv single x*iv single x+iv single y*iv single y) ((5*2^Qp:Nat):Int)with h1|h1
  ·exact h1
  ·exfalso
   have:=Zo pxx pyy (by
    rw[eK,<-Apc,An2 (5*2^Qp)]
    exact Aoy h1 (Apx _))
   unfold Bj at h;rw[this]at h;cases h
 have sx:0<=iv single x*iv single x:=sq_pos _;have sy:0<=iv single y*iv single y:=sq_pos _;have h2:0 <=(iv single x-iv single y) *(iv single x-iv single y):=sq_pos _;have h3:0 <=(iv single x+iv single y) *(iv single x+iv single y):=sq_pos _
 have e2:(iv single x-iv single y) *(iv single x-iv single y)=iv single x*iv single x+iv single y*iv single y-2 *(iv single x*iv single y):=by
  rw[Int.sub_mul,Int.mul_sub,Int.mul_sub,Ao8 (iv single y) (iv single x)];omega
 have e3:(iv single x+iv single y) *(iv single x+iv single y)=iv single x*iv single x+iv single y*iv single y+2 *(iv single x*iv single y):=by
  rw[Apc,Int.mul_add,Int.mul_add,Ao8 (iv single y) (iv single x)];omega
 rw[e2]at h2;rw[e3]at h3;clear e2 e3;generalize iv single x*iv single x=A at *;generalize iv single y*iv single y=B at *;generalize iv single x*iv single y=C at *
 have bd:∀T:Int,T.natAbs<=5*2^Qp ->(T *(2^H6:Nat)).natAbs<=5*2^u64:=by
  intro T hT;rw[Amq,Ame,eK]
  exact Am3 _ hT
 constructor
 ·obtain⟨z,hz,hv,hb⟩:=Acu (r:=r5) pxx pyy Sj (by
   rw[Ii,<-Int.sub_mul]
   exact bd _ (by generalize (2:Nat)^298=U at *;omega))
  rw[Ii]at hb
  have e:Hp X Y=z:=by
   unfold Hp C6;unfold C6 at hz;rw[show floatBits .sub .f64 ((floatBits .mul .f64 X X).getD (Nf .f64)) ((floatBits .mul .f64 Y Y).getD (Nf .f64))=some z from hz];rfl
  rw[e]
  exact Wr hv hb
 ·have two:Cf double 4611686018427387904 ((2:Int) *(2^u64:Nat)):=by
   refine⟨by decide,by unfold fin;decide,?_⟩
   unfold iv;rw[Amd (by decide)]
   have:rv double (A8 double 4611686018427387904)=2*2^u64:=by kernel_rfl
   rw[this];simp
  have hrep:Pa double (2 *(C *(2^H6:Nat))):=by
   exact A6i pxy (by have:=bd (2*C) (by generalize (2:Nat)^298=U at *;omega);rw[Ano]at this;exact this)
  obtain⟨z,hz,hv⟩:=Hb (f:=double) (c:=2 *(C *(2^H6:Nat))) Cj two pxy (by rw[Int.mul_right_comm]) hrep
  have e:Ho X Y=z:=by
   unfold Ho
   show(floatBits .mul .f64 4611686018427387904 (C6 .mul .f64 X Y)).getD _=z
   rw[show floatBits .mul .f64 4611686018427387904 (C6 .mul .f64 X Y)=some z from hz];rfl
  rw[e]
  refine Wr (by rw[hv.iv];exact hv) ?_
  rw[hv.iv];have:=bd (2*C) (by generalize (2:Nat)^298=U at *;omega)
  rw[Ano]at this
  exact this
theorem Qy {P:Program}(s k:FloatKind)(x:Nat)(hne:s≠k)(hc:nan s x=true\/∃u,floatToFloatBits s x k=some u)(w:World) :
 ∃z w',(Conv.floatToFloat s x k).run P w=.ok (.float k z) w'/\z<2^k.format.width/\Bp w w'/\Al k ((floatToFloatBits s x k).getD (Nf k)) z:=by
 cases hd:s.decode x with
 | nan sg f =>
   refine⟨(Question.nanConv k x).cut (w.tape w.drawn (Question.nanConv k x)),w.drew,?_,?_,(Bp.refl w).drew,.inr ⟨?_,Abh k x w⟩⟩
   ·simp[Conv.floatToFloat,hne,hd];intro hf;simp[Question.forced]at hf
   ·cases k
    ·exact A3m _ _
    ·show(_ % 2)*2^63+0x7ff0000000000000+1 +(_ / 2) % (2^52-1)<2^64
     omega
   ·rw[Ds hne (by unfold nan;rw[hd];rfl)];exact E5 k
 | infinity sg =>
   have e:floatToFloatBits s x k=some (k.encode (.infinity sg)):=by simp[floatToFloatBits,hne,hd]
   exact⟨k.encode (.infinity sg),w,by simp[Conv.floatToFloat,hne,hd],Format.write_lt _ _,Bp.refl w,by rw[e];exact .inl rfl⟩
 | number sg m e =>
   by_cases hi:(k.decode (k.encode (.number sg m e))).isInfinity=true
   ·exfalso
    rcases hc with hc |⟨u,hu⟩
    ·unfold nan at hc;rw[hd]at hc;cases hc
    ·simp[floatToFloatBits,hne,hd,hi]at hu
   ·have e':floatToFloatBits s x k=some (k.encode (.number sg m e)):=by simp[floatToFloatBits,hne,hd,hi]
    exact⟨k.encode (.number sg m e),w,by simp[Conv.floatToFloat,hne,hd,hi],Format.write_lt _ _,Bp.refl w,by rw[e'];exact .inl rfl⟩
theorem A33 {x:Nat}(hx:x<4294967296):nan .f32 x=true\/∃u,floatToFloatBits .f32 x .f64=some u:=by
 cases h:nan .f32 x with
 | true=>exact .inl rfl
 | false=>obtain⟨y,hy,_⟩:=A9n (by rw[A1r];exact hx) h;exact .inr ⟨y,hy⟩
theorem Ki {P:Program}(src dst:TypeId)(hs:(P.underlying src).isSome=true)(hd:P.underlying dst=some (.complex .f64))(x y:Nat)(hx:x<4294967296)(hy:y<4294967296)(w:World) :
 ∃re im w',(convert src dst (.complex .f32 x y)).run P w=.ok (.complex .f64 re im) w'/\re<18446744073709551616/\im<18446744073709551616/\Bp w w'/\Al .f64 (A5 x) re/\Al .f64 (A5 y) im:=by
 obtain⟨u,hs'⟩:=Amh.1 hs;obtain⟨z,w1,h1,hz,d1,a1⟩:=Qy (P:=P) .f32 .f64 x (by decide) (A33 hx) w
 obtain⟨z2,w2,h2,hz2,d2,a2⟩:=Qy (P:=P) .f32 .f64 y (by decide) (A33 hy) w1
 refine⟨z,z2,w2,?_,hz,hz2,d1.trans d2,a1,a2⟩
 cases u<;>simp[convert,Aq8 hs',Aq8 hd,Conv.complexToComplex,h1,h2]
theorem Rp {P:Program}(src dst:TypeId)(hs:(P.underlying src).isSome=true)(hd:P.underlying dst=some (.complex .f32))(x y:Nat)(hx:nan .f64 x=true\/∃u,floatToFloatBits .f64 x .f32=some u)(hy:nan .f64 y=true\/∃u,floatToFloatBits .f64 y .f32=some u)(w:World) :
 ∃re im w',(convert src dst (.complex .f64 x y)).run P w=.ok (.complex .f32 re im) w'/\re<4294967296/\im<4294967296/\Bp w w'/\Al .f32 (Ax x) re/\Al .f32 (Ax y) im:=by
 obtain⟨u,hs'⟩:=Amh.1 hs;obtain⟨z,w1,h1,hz,d1,a1⟩:=Qy (P:=P) .f64 .f32 x (by decide) hx w
 obtain⟨z2,w2,h2,hz2,d2,a2⟩:=Qy (P:=P) .f64 .f32 y (by decide) hy w1
 refine⟨z,z2,w2,?_,by rw[<-A1r];exact hz,by rw[<-A1r];exact hz2,d1.trans d2,a1,a2⟩
 cases u<;>simp[convert,Aq8 hs',Aq8 hd,Conv.complexToComplex,h1,h2]
theorem Al.R7 {x y:Nat}(h:Al .f64 x y)(g:∃u,floatToFloatBits .f64 x .f32=some u):nan .f64 y=true\/∃u,floatToFloatBits .f64 y .f32=some u:=by
 rcases h with rfl |⟨_,h⟩
 ·exact .inr g
 ·exact .inl h
theorem Xp {P:Program}(t:TypeId)(k:FloatKind)(a b c d:Nat)(w:World) :
 ∃re im w',(binOp .add t (.complex k a b) (.complex k c d)).run P w=.ok (.complex k re im) w'/\re<2^k.format.width/\im<2^k.format.width/\Bp w w'/\Al k (C6 .add k a c) re/\Al k (C6 .add k b d) im:=by
 obtain⟨x,w1,h1,hx,d1,a1⟩:=Be (P:=P) .add (by simp) t k a c w
 obtain⟨y,w2,h2,hy,d2,a2⟩:=Be (P:=P) .add (by simp) t k b d w1
 refine⟨x,y,w2,?_,hx,hy,d1.trans d2,a1,a2⟩
 have e1:(Op.floatArith .add k a c).run P w=.ok (.float k x) w1:=by simpa [binOp]using h1
 have e2:(Op.floatArith .add k b d).run P w1=.ok (.float k y) w2:=by simpa [binOp]using h2
 simp[binOp,Op.complexOp,Op.Complex.arith,e1,e2]
end Flo
end Go.Proofs.YtjaehldnlamgkaaGreatDoor
