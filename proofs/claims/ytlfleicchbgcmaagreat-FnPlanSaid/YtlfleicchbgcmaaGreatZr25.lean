import Derived.Test.YtlfleicchbgcmaaGreatZr24
import Derived.Lib.Strings
import Derived.OpenVars
import Derived.Lib.SmallJoins
import Derived.Conc.LeavingOf
import Derived.Test.YtlfleicchbgcmaaGreatZr0
import Derived.Test.YtlfleicchbgcmaaGreatZrK
set_option linter.all false
set_option maxHeartbeats 16000000
set_option maxRecDepth 100000
namespace Go.Proofs.YtlfleicchbgcmaaGreat
section
open Go.RowKit
def Gc (s:ByteArray):Path:=s.data.toList
def WB (w:World)(ss:List ByteArray)(r:Option (List Path))(e:Ending):Prop :=
 match r with
 | none=>e=.returned (.tuple #[.slice none 0 0,.bool false])
 | some rest=>∃(a:Option Addr) (c:Nat) (rs:List ByteArray),e=.returned (.tuple #[.slice a rs.length c,.bool true])/\rs.map Gc=rest/\Sl w a (rs.map Value.string)/\rs.length<=c/\c<=maxLen/\rs.length<=ss.length/\∀s∈rs,s∈ss
theorem Yj {m:Nat}{s p:Path}{r:List Path}(h:¬p <+: s):Br m (s :: r) p=none:=by cases m<;>simp[Br,h]
theorem A6k {m:Nat}{s p:Path}{r:List Path}(he:s=p):Br m (s :: r) p=some r:=by cases m<;>simp[Br,he]
theorem Rn:∀(m:Nat) (a:Option Addr) (c:Nat) (ss:List ByteArray) (pb:ByteArray) (_:ss.length<=1048576) (_:ss.length<=c) (_:c<=maxLen) (_:∀s∈ss,s.size<=10) (_:pb.size<=10) (_:10<=pb.size+m) (w:World) (_:Sl w a (ss.map Value.string)),
 Calls Vp.prog 29 #[.slice a ss.length c,.string pb] w fun e w'=>WB w ss (Br m (ss.map Gc) (Gc pb)) e/\w=w':=by
 intro m
 induction m using Nat.strongRecOn with
 | ind m ih =>
   intro a c ss pb hn hc hc2 hs hp hm w hS
   cases ss with
   | nil =>
     have HR:Hid (WB w [] (Br m (List.map Gc []) (Gc pb)) (.returned (.tuple #[.slice none 0 0,.bool false]))):=by
      show WB _ _ _ _
      rw[show Br m (List.map Gc []) (Gc pb)=none from by cases m<;>rfl]
      rfl
     clear ih hS hs
     go_enter Vp.func29,Tryz.ntmps29
     go_wp2
     go_ret2
     exact⟨HR.out,rfl⟩
   | cons s r =>
     have hx:((s :: r).map Value.string)[0]?=some (Value.string s):=rfl;obtain⟨b,off,rfl,hcell⟩:=hS.at hx;rw[Asf]at hcell;have hsz:=hs s (by simp)
     have HS:=Aoy hS;have HL:=Aoy hs;clear hx hS hs;obtain⟨n,hnn⟩:∃n,r.length=n:=⟨_,rfl⟩;have hlen:(s :: r).length=n+1:=by simp[hnn]
     rw[hlen]at hn hc ⊢;have HN:=Aoy hnn;clear hnn hlen;have hnz:((n:Int)+1 == 0)=false:=by simp;omega
     by_cases hlt:s.size<pb.size
     ·have HR:Hid (WB w (s :: r) (Br m ((s :: r).map Gc) (Gc pb)) (.returned (.tuple #[.slice none 0 0,.bool false]))):=by
       show WB _ _ _ _
       have:¬Gc pb <+: Gc s:=fun h=>by have:=h.length_le;rw[Gc,Gc,He,He]at this;omega
       rw[Aqo,Yj this]
       rfl
      clear ih
      go_enter Vp.func29,Tryz.ntmps29
      go_wp2
      go_ret2
      exact⟨HR.out,rfl⟩
     ·have hle:pb.size<=s.size:=by omega
      have hle2:(pb.size:Int)<=s.size:=by omega
      have hnl:¬((s.size:Int)<pb.size):=by omega
      by_cases hpre:(s.extract 0 pb.size).toList=pb.toList
      ·have hpb:((s.extract 0 pb.size).toList == pb.toList)=true:=by simp[hpre]
       have hpp:Gc pb <+: Gc s:=by
        rw[Arp,Arp,Lib.extract_data]at hpre;simp only[List.drop_zero,Nat.sub_zero]at hpre;rw[Gc,<-hpre]
        exact List.take_prefix _ _
       by_cases heq:s.toList=pb.toList
       ·have hsb:(s.toList == pb.toList)=true:=by simp[heq]
        have he:Gc s=Gc pb:=by rw[Arp,Arp]at heq;exact heq
        have HR:Hid (∀a c,Sl w a (r.map Value.string)->n<=c->c<=maxLen->WB w (s :: r) (Br m ((s :: r).map Gc) (Gc pb)) (.returned (.tuple #[.slice a n c,.bool true]))):=by
         intro a c h1 h2 h3;rw[Aqo,A6k he]
         exact⟨a,c,r,by rw[HN.out],rfl,h1,by rw[HN.out];exact h2,h3,by simp,fun t ht=>Atv _ ht⟩
        have HT:Hid (Sl w (some ⟨b,off+1,none⟩) (r.map Value.string)):=by
         rcases HS.out with h |⟨b',o',h1,h2⟩
         ·simp at h
         ·obtain⟨rfl,rfl⟩:b=b'/\off=o':=by injection h1 with h1;injection h1 with h3 h4 _;exact⟨h3,h4⟩
          exact .inr ⟨b,off+1,rfl,fun i v hv=>by have:=h2 (i+1) v hv;rwa [show off+1+i=off +(i+1) by omega]⟩
        have hc1:(1:Int) <=(n:Int)+1:=by omega
        have hc3:(n:Int)+1<=c:=by omega
        clear ih hpre heq hpp he
        go_enter Vp.func29,Tryz.ntmps29
        go_wp2
        all_goals go_ret2
        ·have hr:r=[]:=List.eq_nil_of_length_eq_zero (by rw[HN.out];omega)
         exact⟨HR.out _ _ (.inl (by rw[hr];rfl)) (by omega) (Aq1 _),rfl⟩
        ·exact⟨HR.out _ _ HT.out (by omega) (Ap3 (Nat.sub_le _ _) hc2),rfl⟩
       ·have hsb:(s.toList == pb.toList)=false:=by simp[heq]
        have hne:Gc s≠Gc pb:=fun h=>heq (by rw[Arp,Arp];exact h)
        have hlen:pb.size<s.size:=by
         rcases Nat.lt_or_eq_of_le hle with h|h
         ·exact h
         ·exact absurd (hpp.eq_of_length (by rw[Gc,Gc,He,He];exact h)).symm hne
        obtain⟨k0,rfl⟩:∃k0,m=k0+1:=⟨m-1,by omega⟩
        have HW:Hid (chain (Br k0) (Gc pb) [48,49,50,51] ((s :: r).map Gc)=Br (k0+1) ((s :: r).map Gc) (Gc pb)):=by
         show _=_
         rw[Aqo,Br];rw[Apb hpp,Ap8 hne]
        have HX:Hid (∀k,k<4->Gc (pb ++(⟨#[48,49,50,51]⟩:ByteArray).extract k (k+1))=Gc pb++[([48,49,50,51]:List UInt8).getD k 0]):=by
         intro k hk
         have:((⟨#[48,49,50,51]⟩:ByteArray).extract k (k+1)).data.toList=[([48,49,50,51]:List UInt8).getD k 0]:=by
          rcases(by omega:k=0\/k=1\/k=2\/k=3)with rfl|rfl|rfl|rfl<;>rfl
         rw[Gc,ByteArray.data_append,Array.toList_append,this]
         rfl
        have HZ:Hid (∀k,k<4 ->(pb ++(⟨#[48,49,50,51]⟩:ByteArray).extract k (k+1)).size=pb.size+1):=by
         intro k hk;have:=congrArg List.length (HX.out k hk);rw[Apz,Gc,Gc,He,He]at this
         exact this
        have HD:Hid (∀k,k<4 ->([48,49,50,51]:List UInt8).drop k=([48,49,50,51]:List UInt8).getD k 0 ::([48,49,50,51]:List UInt8).drop (k+1)):=by
         intro k hk
         rcases(by omega:k=0\/k=1\/k=2\/k=3)with rfl|rfl|rfl|rfl<;>rfl
        have HS0:=Aoy (show Sl w (some ⟨b,off,none⟩) ((s :: r).map Value.string)from HS.out);have IH:=Aoy ih;have HLen:Hid ((s :: r).length=n+1):=by show _=_;rw[Aqx,HN.out]
        have hp10:pb.size<10:=by omega
        generalize hq:Gc pb=p at *;have HQ:=Aoy hq;clear ih hpre heq hpp hne hq HS
        go_enter Vp.func29,Tryz.ntmps29
        go_wp2
        go_loop [0,38] (fun ps i=>∃(k:Nat) (a':Option Addr) (c':Nat) (cs:List ByteArray),k<=4/\i=.int .i64 k/\ps=.slice a' cs.length c'/\cs.length<=c'/\c'<=maxLen/\cs.length<=n+1/\Hid (Sl w a' (cs.map Value.string))/\Hid (∀t∈cs,t∈s :: r)/\Hid (chain (Br k0) p (([48,49,50,51]:List UInt8).drop k) (cs.map Gc)=Br (k0+1) ((s :: r).map Gc) p)) (fun _ i=>(4-intOf i).toNat)
        case atStart=>exact⟨0,_,c,s :: r,by omega,rfl,by rw[HLen.out],by rw[HLen.out];exact hc,hc2,As8 HLen.out,HS0,fun t ht=>ht,HW⟩
        case round =>
         obtain⟨k,a',c',cs,hk,rfl,rfl,h1,h2,h3,KS,KM,KW⟩:=hrel
         by_cases hlt:k<4
         ·have KX:=Aoy (HX.out k hlt);have KZ:=Aoy (HZ.out k hlt);have KD:=KW.out;rw[HD.out k hlt,chain]at KD;generalize ([48,49,50,51]:List UInt8).getD k 0=d at *
          cases hr:Br k0 (cs.map Gc) (p++[d])with
          | none =>
            rw[hr]at KD
            have HN:Hid (WB w (s :: r) (Br (k0+1) ((s :: r).map Gc) p) (.returned (.tuple #[.slice none 0 0,.bool false]))):=by
             show WB _ _ _ _
             rw[<-KD]
             rfl
            have HC:Hid (∀X:ByteArray,X.size=pb.size+1->Gc X=p++[d]->Calls Vp.prog 29 #[.slice a' cs.length c',.string X] w fun e w'=>e=.returned (.tuple #[.slice none 0 0,.bool false])/\w=w'):=by
             intro X h hX;have:=IH.out k0 (by omega) a' c' cs X (by omega) h1 h2 (fun t ht=>HL.out t (KM.out t ht)) (by omega) (by omega) w KS.out
             rw[hX,hr]at this
             exact this
            clear KD hr KW
            go_wp2_with (go_at_call 29;refine(HC.out _ KZ.out KX.out).mono ?_;rintro e w' ⟨rfl,rfl⟩)
            go_ret2
            exact⟨HN.out,rfl⟩
          | some rest =>
            rw[hr,At7]at KD;have HK:=Aoy KD
            have HC:Hid (∀X:ByteArray,X.size=pb.size+1->Gc X=p++[d]->Calls Vp.prog 29 #[.slice a' cs.length c',.string X] w fun e w'=>WB w cs (some rest) e/\w=w'):=by
             intro X h hX;have:=IH.out k0 (by omega) a' c' cs X (by omega) h1 h2 (fun t ht=>HL.out t (KM.out t ht)) (by omega) (by omega) w KS.out
             rw[hX,hr]at this
             exact this
            clear KD hr KW
            go_wp2_with (go_at_call 29;refine(HC.out _ KZ.out KX.out).mono ?_;rintro e w' ⟨⟨a2,c2,rs,rfl,e1,e2,e3,e4,e5,e6⟩,rfl⟩)
            go_round
            case rel =>
             refine⟨k+1,a2,c2,rs,by omega,by go_num,rfl,e3,e4,by omega,e2,fun t ht=>KM.out t (e6 t ht),?_⟩
             show _=_
             rw[<-HK.out,e1]
            case measure=>simp[intOf];omega
         ·obtain rfl:k=4:=by omega
          have HN:Hid (WB w (s :: r) (Br (k0+1) ((s :: r).map Gc) p) (.returned (.tuple #[.slice a' cs.length c',.bool true]))):=by
           show WB _ _ _ _
           rw[<-KW.out]
           exact⟨a',c',cs,rfl,rfl,KS.out,h1,h2,by rw[HLen.out];exact h3,KM.out⟩
          clear KW
          go_wp2
          go_ret2
          exact⟨HN.out,rfl⟩
      ·have hpb:((s.extract 0 pb.size).toList == pb.toList)=false:=by simp[hpre]
       have HR:Hid (WB w (s :: r) (Br m ((s :: r).map Gc) (Gc pb)) (.returned (.tuple #[.slice none 0 0,.bool false]))):=by
        show WB _ _ _ _
        have:¬Gc pb <+: Gc s:=fun h=>by
         apply hpre
         rw[Arp,Arp,Lib.extract_data];simp only[List.drop_zero,Nat.sub_zero];have h1:=List.prefix_iff_eq_take.1 h;rw[Gc,He]at h1
         exact h1.symm
        rw[Aqo,Yj this]
        rfl
       clear ih hpre
       go_enter Vp.func29,Tryz.ntmps29
       go_wp2
       go_ret2
       exact⟨HR.out,rfl⟩
theorem Qj:∀{ss:List ByteArray} {d x:Nat},Db ss d=some x->∀s∈ss,Di s 10=true
 | [],_,_,_=>by simp
 | s :: r,d,x,h=>by
   unfold Db at h
   split at h
   ·rename_i hs
    intro t ht
    rcases Aqe.1 ht with rfl|ht
    ·exact hs
    ·exact Qj h t ht
   ·cases h
theorem Nf {ss:List ByteArray}{m:Nat}{x:Nat}(h:Cj ss m=some x):∀s∈ss,Di s 10=true:=by
 unfold Cj at h
 split at h
 ·cases h
 ·split at h
  ·exact Qj h
  ·cases h
theorem Acs {s:ByteArray}(h:Di s 10=true):okP (Gc s)/\s.size<=10:=by
 unfold Di at h;rw[Ap7,Apm,Art]at h
 refine⟨⟨by rw[Gc,He];exact h.1,fun c hc=>?_⟩,h.1⟩
 have:=h.2 c hc;unfold Ho at this
 simpa using this
def Dt (ss:List ByteArray)(m:Nat):Bool:=(Cj ss m).isSome && decide (sumTo (ss.map Gc) 0=some 1048576)
theorem Aee {ss:List ByteArray}{m x:Nat}(h:Cj ss m=some x):(Br 10 (ss.map Gc) []=some []↔sumTo (ss.map Gc) 0=some 1048576):=by
 refine A6l _ fun s hs=>?_
 obtain⟨t,ht,rfl⟩:=Aq5.1 hs
 exact(Acs (Nf h t ht)).1
theorem Ol (a a2:Option Addr)(c m c2:Nat)(p q r:Int)(ss:List ByteArray)(hn:ss.length<=1048576)(hc:ss.length<=c)(hc2:c<=maxLen)(hl:∀s∈ss,s.size<=1048576)(w:World)(hs:Sl w a (ss.map Value.string)) :
 Calls Vp.prog 11 #[.agg #[.slice a ss.length c,.slice a2 m c2,.int .i64 p,.int .i64 q,.int .i64 r]] w fun e w'=>e=.returned (.bool (Dt ss m))/\Below w.heap.size w w':=by
 have B:=A9.new w #[.slice a ss.length c,.slice a2 m c2,.int .i64 p,.int .i64 q,.int .i64 r] 29;have HS:=Aoy (hs.alloc (.cells #[.slice a ss.length c,.slice a2 m c2,.int .i64 p,.int .i64 q,.int .i64 r] 29));have HD:=Aoy (Oj a a2 c m c2 p q r ss hn hl _ HS.out)
 cases hd:Cj ss m with
 | none =>
   have HP:Hid (Dt ss m=false):=by show _=_;unfold Dt;rw[hd];rfl
   rw[hd]at HD;simp only[Option.getD_none,Option.isSome_none]at HD;clear hs hl hd
   go_enter Vp.func11,Tryz.ntmps11
   go_wp2_with (go_at_call 28;refine HD.out.mono ?_;rintro e w' ⟨rfl,hb⟩;have B2:=Aoy (B.step hb);clear hb B)
   go_ret
   rw[HP.out]
   exact⟨rfl,B2.out.old⟩
 | some x =>
   have H10:=Aoy (fun s (hs:s∈ss)=>(Acs (Nf hd s hs)).2)
   have HO:=Aoy (Aee hd);have HP:Hid (Dt ss m=decide (sumTo (ss.map Gc) 0=some 1048576)):=by show _=_;unfold Dt;rw[hd];rfl
   rw[hd]at HD;simp only[Option.getD_some,Option.isSome_some]at HD;clear hs hl hd
   go_enter Vp.func11,Tryz.ntmps11
   go_wp2_with fail
   refine HD.out.mono ?_
   rintro e w1 ⟨rfl,hb⟩;replace B:=B.step hb;have HS1:=Aoy (HS.out.step hb);have c0:=B.cell 0 _ rfl;clear hb HS HD
   go_wp2_with fail
   refine(Rn 10 a c ss ⟨#[]⟩ hn hc hc2 H10.out (Aq1 _) (Ap0 _) _ HS1.out).mono ?_
   rw[show Gc ⟨#[]⟩=[]from rfl];rintro e w2 ⟨hw,rfl⟩
   cases hr:Br 10 (ss.map Gc) []with
   | none =>
     rw[hr]at hw;have hw:e=_:=hw;subst hw
     have HF:Hid (Dt ss m=false):=by
      show _=_
      rw[HP.out,Asg,<-HO.out,hr];simp
     clear hr HO HP HS1 H10
     go_wp2
     go_ret
     rw[HF.out]
     exact⟨rfl,B.old⟩
   | some rest =>
     rw[hr]at hw;obtain⟨a3,c3,rs,rfl,e1,e2,e3,e4,e5,e6⟩:=hw
     by_cases hz:rs.length=0
     ·have HF:Hid (Dt ss m=true):=by
       show _=_
       rw[HP.out,Apm,<-HO.out,hr,<-e1,List.eq_nil_of_length_eq_zero hz]
       rfl
      clear hr HO HP HS1 H10 e1 e2 e6;rw[hz]
      go_wp2
      go_ret
      rw[HF.out]
      exact⟨rfl,B.old⟩
     ·have HF:Hid (Dt ss m=false):=by
       show _=_
       rw[HP.out,Asg,<-HO.out,hr,<-e1];intro h;simp at h
       exact hz (by rw[h];rfl)
      have hzb:((rs.length:Int) == 0)=false:=by simp;simpa using hz
      have e7:rs.length<=1048576:=by omega
      clear hr HO HP HS1 H10 e1 e2 e6;generalize rs.length=k at *
      go_wp2
      go_ret
      rw[HF.out]
      exact⟨rfl,B.old⟩
end
section
theorem Od:∀{ss:List ByteArray} (x:Nat),(∀s,s∈ss->Di s 10=true)->∃d,Db ss x=some d
 | [],x,_=>⟨x,rfl⟩
 | s :: r,x,h=>by
   rw[Tf (h s (List.mem_cons_self ..))]
   exact Od _ (fun u hu=>h u (Atv _ hu))
end
section
open Go.RowKit Flo
def wE (c:F8)(bs:List UInt8):Nat:=4^(10-(c.d0+bs.length))
noncomputable def cN (c:F8)(v:Int)(bs:List UInt8):Nat:=(Iu c v bs).toNat
theorem Qe {c:F8}{bs:List UInt8}{t:Aj}(h:J7 c bs t)(v:Int):cN c v bs=cnt v t.ys:=by unfold cN;rw[I8 h];rfl
theorem Ab8 (c:F8)(v:Int)(bs:List UInt8):Iu c v bs=(cN c v bs:Nat):=by
 unfold cN Iu
 split<;>simp
noncomputable def sE (c:F8)(v:Int):List (List UInt8)->Nat
 | []=>0
 | p :: L=>cN c v p*wE c p+sE c v L
theorem A0e (c:F8)(v:Int):∀(A B:List (List UInt8)),sE c v (A++B)=sE c v A+sE c v B
 | [],B=>by simp[sE]
 | p :: A,B=>by
   have:=A0e c v A B
   show cN c v p*wE c p+sE c v (A++B)=cN c v p*wE c p+sE c v A+sE c v B
   omega
theorem Abt:∀k:Fin 11,wrap64 ((2:Int)^(2*k.val))=((4^k.val:Nat):Int):=by decide +kernel
theorem Aj7 (c:F8)(bs:List UInt8):wtD ((D5 c).deep bs)=(wE c bs:Nat):=by
 unfold wtD wE
 show wrap64 (2^(2 *(10-((c.d0:Int)+bs.length))).toNat)=_
 rw[show(2 *(10-((c.d0:Int)+bs.length))).toNat=2 *(10-(c.d0+bs.length))from by omega]
 exact Abt ⟨10-(c.d0+bs.length),by omega⟩
theorem Yc (c:F8)(v:Int):∀(L:List (List UInt8)) (z:Nat),z+sE c v L<=4611686018427387904->L.foldl (fun p bs=>A8e p (Iu c v bs) (wtD ((D5 c).deep bs))) (z:Int)=((z+sE c v L:Nat):Int)
 | [],z,_=>by simp[sE]
 | p :: L,z,h=>by
   rw[Au0];unfold sE at h ⊢
   have e:A8e (z:Int) (Iu c v p) (wtD ((D5 c).deep p))=((z+cN c v p*wE c p:Nat):Int):=by
    unfold A8e;rw[Ab8,Aj7,<-Apx];generalize cN c v p*wE c p=m at *;rw[Fv (x:=((m:Nat):Int)) (by omega) (by omega),<-Int.natCast_add,Fv (by omega) (by omega)]
   rw[e,Yc c v L _ (by omega),Nat.add_assoc]
theorem Mt {c:F8}{v:Int}{L:List (List UInt8)}(h:sE c v L<=4611686018427387904):Wc c v L=(sE c v L:Nat):=by
 have:=Yc c v L 0 (by omega)
 rw[Aqr]at this
 exact this
theorem Ye:∀(A B:List (List UInt8)) (x z:Nat),sumTo (A++B) x=some z->∃y,sumTo A x=some y/\sumTo B y=some z
 | [],B,x,z,h=>⟨x,rfl,h⟩
 | s :: A,B,x,z,h=>by
   change (if Ph s=x then sumTo (A++B) (x+Cd s.length)else none)=some z at h
   show ∃y,(if Ph s=x then sumTo A (x+Cd s.length)else none)=some y/\_
   split at h
   ·rename_i ha
    rw[Apb ha]
    exact Ye A B _ z h
   ·cases h
theorem A3y:∀(A B:List (List UInt8)) (x y:Nat),sumTo A x=some y->sumTo (A++B) x=sumTo B y
 | [],B,x,y,h=>by simp only[sumTo,Aqj]at h;rw[h];rfl
 | s :: A,B,x,y,h=>by
   change (if Ph s=x then sumTo A (x+Cd s.length)else none)=some y at h
   show(if Ph s=x then sumTo (A++B) (x+Cd s.length)else none)=_
   split at h
   ·rename_i ha
    rw[Apb ha]
    exact A3y A B _ y h
   ·cases h
theorem A6g {p:List UInt8}(hp:p.length<10)(B:List (List UInt8)):sumTo (kids p++B) (Ph p)=sumTo B (Ph p+Cd p.length):=by
 have ha:Ph p=(4*Bv p 0)*Cd (p.length+1):=by
  unfold Ph;rw[Mw hp,<-Apo,Apr (Bv p 0) 4]
 have e0:=Ld p 48;have e1:=Ld p 49;have e2:=Ld p 50;have e3:=Ld p 51;have hw:∀c:UInt8,Cd (p++[c]).length=Cd (p.length+1):=fun c=>by rw[Apz];rfl
 rw[Mw hp,ha];rw[show(48:UInt8).toNat-48=0 from rfl,Asf]at e0;rw[show(49:UInt8).toNat-48=1 from rfl,Ar1]at e1;rw[show(50:UInt8).toNat-48=2 from rfl,Ar1]at e2;rw[show(51:UInt8).toNat-48=3 from rfl,Ar1]at e3
 show sumTo ((p++[48]) ::(p++[49]) ::(p++[50]) ::(p++[51]) :: B) _=_
 generalize 4*Bv p 0*Cd (p.length+1)=X at *;generalize Cd (p.length+1)=W at *
 conv=>lhs;unfold sumTo
 rw[Apb e0,hw]
 conv=>lhs;unfold sumTo
 rw[Apb (by omega),hw]
 conv=>lhs;unfold sumTo
 rw[Apb (by omega),hw]
 conv=>lhs;unfold sumTo
 rw[Apb (by omega),hw,show X+W+W+W+W=X+4*W from by omega]
structure PG (c:F8)(n:Nat)(L:List (List UInt8)):Prop where
 left:L.Pairwise Left
 sum:sumTo L 0=some 1048576
 at_:∀p,p∈L->∃t,J7 c p t
 len:L.length<=3*n+1
 tot:sE c 1 L+sE c (-1) L+sE c 0 L=c.s.toNat*c.s.toNat*4^(10-c.d0)
theorem PG.mono {c:F8}{n m:Nat}{L:List (List UInt8)}(h:PG c n L)(k:n<=m):PG c m L:=⟨h.left,h.sum,h.at_,by have:=h.len;omega,h.tot⟩
theorem PG.root {c:F8}(h:Wi c.x0 c.y0 c.d0 c.s):PG c 0 [[]]:=by
 obtain⟨t,h1,h2,h3,h4,h5⟩:=A7d c.A4 h;have hA:J7 c [] t:=⟨⟨c.d0,h4,h2,h3,rfl⟩,h5,h1⟩;obtain⟨d,s,a,b,k1,k2,k3⟩:=h
 refine⟨by simp,by decide +kernel,fun p hp=>?_,by simp,?_⟩
 ·obtain rfl:p=[]:=by simpa using hp
  exact⟨t,hA⟩
 ·have ht:=h1.tot (s:=s) (by omega)
  show cN c 1 []*wE c []+0 +(cN c (-1) []*wE c []+0) +(cN c 0 []*wE c []+0)=_
  rw[Qe hA,Qe hA,Qe hA,Asf,Asf,Asf,<-Ar1,<-Ar1,ht,show c.s.toNat=s from by omega]
  rfl
theorem J7.Ahm {c:F8}{p:List UInt8}{t:Aj}(h:J7 c p t):c.d0+p.length<=10:=by
 obtain⟨dd,e,hp⟩:=h.path;obtain⟨d,s,a,b,k1,k2,k3,-⟩:=h.Ca;have:=hp.len;have:=k3.d10
 omega
theorem PG.step {c:F8}(hm:(Be c.A4).toNat<=31){n:Nat}{A B:List (List UInt8)}{p:List UInt8}(h:PG c n (A++p :: B))(hg:(D5 c).deep p<10)(hs:(D5 c).sp p) :
 PG c (n+1) (A++kids p++B)/\∀v,v≠0->sE c v (A++p :: B)<=sE c v (A++kids p++B):=by
 obtain⟨t,ht⟩:=h.at_ p (by simp)
 have hgood:=ht.Ca;obtain⟨d,s,a,b,k1,k2,k3,-⟩:=hgood;have hsp:=(ht.sp k1).1 hs;have ecs:c.s=s:=by rw[<-ht.size];exact k2
 have hd:d=c.d0+p.length:=by
  obtain⟨dd,e,hp⟩:=ht.path;have:=hp.len
  omega
 have hd10:d<10:=by
  have e:(D5 c).deep p=t.deep:=ht.deep.symm
  omega
 have hex:∀q:Nat,∃u:Aj,q<4->Dq c.A4 u/\u.cx=(Bj t.cx t.cy d s q).1/\u.cy=(Bj t.cx t.cy d s q).2/\u.deep=(d:Int)+1/\u.size=s:=fun q=>by
  by_cases hq:q<4
  ·have:=hsp q hq;rw[ecs]at this;obtain⟨u,g1,g2,g3,g4,g5⟩:=A7d c.A4 this
   exact⟨u,fun _=>⟨g1,g2,g3,g4,g5⟩⟩
  ·exact⟨t,fun h=>absurd h hq⟩
 obtain⟨U,hU⟩:=Classical.axiomOfChoice hex
 have hK:∀q,q<4->J7 c (p++[UInt8.ofNat (48+q)]) (U q):=fun q hq=>by
  obtain⟨u1,u2,u3,u4,u5⟩:=hU q hq;rw[<-ecs]at u2 u3 u5
  exact ht.kid k1 hsp hq u2 u3 u4 u5 u1
 have a0:J7 c (p++[48]) (U 0):=hK 0 (by omega)
 have a1:J7 c (p++[49]) (U 1):=hK 1 (by omega)
 have a2:J7 c (p++[50]) (U 2):=hK 2 (by omega)
 have a3:J7 c (p++[51]) (U 3):=hK 3 (by omega)
 have hkt:=fun(q:Nat) (hq:q<4)=>(hU q hq).1.tot (hU q hq).2.2.2.2
 have t0:=hkt 0 (by omega)
 have t1:=hkt 1 (by omega)
 have t2:=hkt 2 (by omega)
 have t3:=hkt 3 (by omega)
 have tp:=ht.Ca.tot k2
 have hw1:∀x:UInt8,wE c (p++[x])=4^(10-(d+1)):=fun x=>by
  unfold wE;rw[Apz,hd]
  rfl
 have hw:wE c p=4*4^(10-(d+1)):=by
  unfold wE;rw[<-hd,<-Nat.pow_succ']
  congr 1
  omega
 have old:∀v,sE c v (A++p :: B)=sE c v A +(cnt v t.ys *(4*4^(10-(d+1)))+sE c v B):=fun v=>by
  rw[A0e]
  conv=>lhs;rhs;unfold sE
  rw[Qe ht,hw]
 have new:∀v,sE c v (A++kids p++B)=sE c v A +((cnt v (U 0).ys+cnt v (U 1).ys+cnt v (U 2).ys+cnt v (U 3).ys)*4^(10-(d+1))+sE c v B):=fun v=>by
  rw[A0e,A0e]
  have:sE c v (kids p)=(cnt v (U 0).ys+cnt v (U 1).ys+cnt v (U 2).ys+cnt v (U 3).ys)*4^(10-(d+1)):=by
   show cN c v (p++[48])*wE c (p++[48]) +(cN c v (p++[49])*wE c (p++[49]) +(cN c v (p++[50])*wE c (p++[50]) +(cN c v (p++[51])*wE c (p++[51])+0)))=_
   rw[Qe a0,Qe a1,Qe a2,Qe a3,hw1,hw1,hw1,hw1,Ar1,Ar1,Ar1]
   omega
  rw[this,Nat.add_assoc]
 have hq:=fun v hv=>Z9 hm ht.Ca k1 k2 hU (v:=v) hv
 refine⟨⟨Tu h.left,?_,fun q hqm=>?_,?_,?_⟩,fun v hv=>?_⟩
 ·have hsum:=h.sum;obtain⟨y,y1,y2⟩:=Ye _ _ _ _ hsum;unfold sumTo at y2
  split at y2
  ·rename_i ha
   rw[Ari,A3y _ _ _ _ y1,<-ha,A6g (by omega),ha]
   exact y2
  ·cases y2
 ·rcases Aq9.1 hqm with hqm|hqm
  ·rcases Aq9.1 hqm with hqm|hqm
   ·exact h.at_ q (by simp[hqm])
   ·unfold kids at hqm;simp only[Aqe,Aqc,As6]at hqm
    rcases hqm with rfl|rfl|rfl|rfl
    ·exact⟨_,a0⟩
    ·exact⟨_,a1⟩
    ·exact⟨_,a2⟩
    ·exact⟨_,a3⟩
  ·exact h.at_ q (by simp[hqm])
 ·have:=h.len;rw[Apz,Aqx]at this;rw[Apz,Apz,show(kids p).length=4 from rfl]
  omega
 ·have htot:=h.tot;rw[old,old,old]at htot;rw[new,new,new,<-htot];generalize 4^(10-(d+1))=W at *
  have e1:cnt 1 t.ys *(4*W)+cnt (-1) t.ys *(4*W)+cnt 0 t.ys *(4*W)=4 *(s*s)*W:=by
   rw[<-Ar1,<-Ar1,tp,<-Apo,Apr (s*s) 4]
  have e2:(cnt 1 (U 0).ys+cnt 1 (U 1).ys+cnt 1 (U 2).ys+cnt 1 (U 3).ys)*W +(cnt (-1) (U 0).ys+cnt (-1) (U 1).ys+cnt (-1) (U 2).ys+cnt (-1) (U 3).ys)*W +(cnt 0 (U 0).ys+cnt 0 (U 1).ys+cnt 0 (U 2).ys+cnt 0 (U 3).ys)*W=4 *(s*s)*W:=by
   rw[<-Ar1,<-Ar1]
   congr 1
   omega
  omega
 ·rw[old,new];have h1:=Ap2 (4^(10-(d+1))) (hq v hv);rw[Apr 4,Apo]at h1
  omega
theorem A7r {c:F8}(hm:(Be c.A4).toNat<=31){k:Nat}{G:List (List UInt8)}{r:Option (List (List UInt8))}(h:(D5 c).Eu k G r):∀{G':List (List UInt8)},r=some G'->∀{n:Nat} {L:List (List UInt8)},PG c n L->L.Perm G ->
 ∃L',PG c (n+k) L'/\L'.Perm G'/\∀v,v≠0->sE c v L<=sE c v L':=by
 induction h with
 | zero G =>
   intro G' e n L hL hp;injection e with e
   subst e
   exact⟨L,hL,hp,fun _ _=>Ap0 _⟩
 | stop n G hg =>
   intro G' e n L hL hp;injection e with e
   subst e
   exact⟨L,hL.mono (by omega),hp,fun _ _=>Ap0 _⟩
 | fail=>intro G' e;cases e
 | step k G G1 p r hk hs h1 h2 ih =>
   intro G' e n L hL hp;obtain⟨A,B,rfl⟩:=List.append_of_mem (hp.mem_iff.2 hk.mem);obtain⟨g1,g2⟩:=hL.step hm hk.Ca.2 hs
   have hperm:(A++kids p++B).Perm G1:=by
    refine List.Perm.trans ?_ h1.symm
    have e1:(p ::(A++B)).Perm (p :: G.erase p):=(List.perm_middle.symm.trans hp).trans (List.perm_cons_erase hk.mem);have e2:=List.Perm.cons_inv e1
    refine List.Perm.trans ?_ (Ast (kids p) e2)
    rw[<-Ari]
    exact List.Perm.append_right B Atr
   obtain⟨L',q1,q2,q3⟩:=ih e g1 hperm
   exact⟨L',by rw[show n +(k+1)=n+1+k from by omega];exact q1,q2,fun v hv=>Ap3 (g2 v hv) (q3 v hv)⟩
theorem Xy {E:Hl}:∀(n:Nat) {G G2:List (List UInt8)},E.Eu (n+1) G (some G2)->∃G1,E.Eu n G (some G1)/\E.Eu 1 G1 (some G2)
 | n,G,G2,h=>by
   cases h with
   | stop _ _ hg=>exact⟨G,.stop n G hg,.stop 1 G hg⟩
   | step _ _ G1 p _ hk hs hp hr =>
     cases n with
     | zero=>exact⟨G,.zero G,.step 0 G G1 p _ hk hs hp hr⟩
     | succ n =>
       obtain⟨H,h1,h2⟩:=Xy n hr
       exact⟨H,.step _ _ _ p _ hk hs hp h1,h2⟩
section
variable {c : F8} (hm : (Be c.A4).toNat <= 31) (hk : Wi c.x0 c.y0 c.d0 c.s)
include hm hk
theorem A01 {bd:Nat}{L G:List (List UInt8)}(h1:(D5 c).Eu bd [[]] (some G))(h2:L.Perm G)(h3:L.Pairwise (fun a b=>Op.bytesLess b a=false)):PG c bd L:=by
 obtain⟨L',q1,q2,-⟩:=A7r hm h1 rfl (PG.root hk) (At4 _);obtain rfl:=Kf (q2.trans h2.symm) q1.left h3
 rwa [Aqr]at q1
theorem Xt {b:Nat}{L G L1 G1:List (List UInt8)}(h1:(D5 c).Eu (b+1) [[]] (some G))(h2:L.Perm G)(h3:L.Pairwise (fun a b=>Op.bytesLess b a=false))(k1:(D5 c).Eu b [[]] (some G1))(k2:L1.Perm G1)(k3:L1.Pairwise (fun a b=>Op.bytesLess b a=false)){v:Int}(hv:v≠0):sE c v L1<=sE c v L:=by
 obtain⟨H,r1,r2⟩:=Xy b h1;have hd:E9 (some G1) (some H):=k1.det (At4 _) r1;have hp:=A01 hm hk k1 k2 k3;obtain⟨L2,q1,q2,q3⟩:=A7r hm r2 rfl hp (k2.trans hd);obtain rfl:=Kf (q2.trans h2.symm) q1.left h3
 exact q3 v hv
end
theorem PG.whole {c:F8}{n:Nat}{P:List ByteArray}(h:PG c n (P.map ByteArray.toList))(hn:0<P.length):Dt P P.length=true:=by
 have e:P.map ByteArray.toList=P.map Gc:=by
  apply List.map_congr_left
  intro s _;rw[toList_data]
  rfl
 rw[e]at h
 have hok:∀s,s∈P->Di s 10=true:=fun s hs=>by
  obtain⟨t,ht⟩:=h.at_ (Gc s) (List.mem_map_of_mem hs);have h10:=ht.Ahm;obtain⟨dd,-,hp⟩:=ht.path;unfold Di;rw[Ap7,Apm,Art]
  refine⟨?_,fun x hx=>?_⟩
  ·have:(Gc s).length=s.size:=He s
   omega
  ·have:=hp.Ake x hx;unfold dig at this;unfold Ho;simp[this]
 unfold Dt Cj;rw[Ap8 (by omega),Apb rfl]
 obtain⟨x,hx⟩:=Od (ss:=P) 0 hok;rw[hx,h.sum]
 rfl
end
section
open Go.RowKit Flo
attribute [local go_sem ↓] Go.wp_at_zero Go.wp_at_succ
attribute [local go_sem] A7 A5
theorem Afv {w:World}{base:Nat}{e:TypeId}{size:Nat}{g m cap n:Nat}{xs:List Value}(h:w.ownsRow base e size (.slice (some ⟨g,0,none⟩) m cap) n xs):cap<=maxLen:=by
 obtain⟨_,⟨h,_⟩ |⟨g',cap',cur,e',_,_,_,hm,_⟩⟩:=h
 ·cases h
 ·injection e' with _ _ e3
  omega
def A49 (w:World)(e:Ending)(w':World):Prop:=(∃(x y:Nat) (d s m b:Int),e=.returned (.tuple #[.complex .f32 x y,.int .i64 d,.int .i64 s,.int .i64 m,.int .i64 b])/\x<4294967296/\y<4294967296/\m<=31)/\Below w.heap.size w w'
theorem A1n (a:Option Addr)(c:Nat)(bs:List UInt8)(hn:bs.length<=1048576)(hc:bs.length<=c)(w:World)(hs:Sl w a (bs.map Da)) :
 Calls Vp.prog 5 #[.slice a bs.length c] w (A49 w):=by
 have H:=Aoy (Acv a c bs hn hc w hs);clear hs
 go_enter Vp.func5,Tryz.ntmps5
 go_wp2_with fail
 refine H.out.mono ?_
 rintro e w1 ⟨b,rfl,-,hR⟩
 go_wp2_with fail
 refine(A9j w b 0 (by omega) _ hR).mono ?_
 rintro e w2 ⟨⟨x,y,d,s,m,rfl,hx,hy,h1,h2⟩,⟨p0,hp0,hR2⟩,-⟩;have HF:=Aoy (And.intro hx (And.intro hy h2));have HR2:=Aoy hR2;clear hR hR2 hx hy h1 h2 H
 go_wp2_with fail
 refine(Ds w b p0 6 (by omega) (by omega) _ HR2.out).mono ?_
 rintro e w3 ⟨⟨n,rfl,-,-⟩,hR3,-⟩
 go_wp2_with fail
 refine(Ds w b (p0+1) 20 (by omega) (by omega) _ hR3).mono ?_
 rintro e w4 ⟨⟨n2,rfl,-,-⟩,hR4,-⟩;have HB:=Aoy hR4.below;clear hR3 hR4 HR2
 go_wp2
 exact Ap4 (v:=.tuple #[.complex .f32 x y,.int .i64 d,.int .i64 s,.int .i64 m,.int .i64 (wrap64 (n-wrap64 (wrap64 (n2.tdiv 19)*7)))]) (by simp[results,Tryz.f5,go_sem]) rfl ⟨⟨x,y,d,s,m,_,rfl,HF.out⟩,HB.out⟩
end
section
open Go.RowKit Flo
attribute [local go_sem ↓] Go.wp_at_zero Go.wp_at_succ
attribute [local go_sem] A7 A5
theorem A8y:∀k:Fin 11,(2:Int)^(2*k.val)=((4^k.val:Nat):Int):=by decide +kernel
theorem A0w (w:World)(a:Option Addr)(c:Nat)(bs:List UInt8)(_:bs.length<=maxLen)(hc:bs.length<=c)(hs:Sl w a (bs.map Da)) :
 Calls Vp.prog 4 #[.slice a bs.length c] w fun e _=>e=.returned (.bool true):=by
 by_cases hb:1048576<bs.length
 ·go_enter Vp.func4,Tryz.ntmps4
  go_wp2
  go_ret
  rfl
 have H:=Aoy (A1n a c bs (by omega) hc w hs)
 clear hs
 go_enter Vp.func4,Tryz.ntmps4
 go_wp2_with fail
 refine H.out.mono ?_
 rintro e w1 ⟨⟨cx,cy,deep,size,A4,budget,rfl,hx,hy,hm31⟩,hb1⟩;have HSP:=Aoy (fun W=>A00 cx cy deep size A4 budget hx hy W)
 clear H hb1
 go_wp2_with fail
 refine(Qv cx cy deep size A4 budget hx hy _).mono ?_
 rintro e w2 ⟨hb2,⟨rfl,hno⟩ |⟨d0,bd,L,G,k1,k2,k3,k4,⟨gp,cp,g,cap,n,P,rfl,r1,r2,r3,r4,r5,r6,r7⟩,k5,k6,k7⟩⟩
 ·
  have X:=A9.new w2 #[.slice none 0 0,.slice none 0 0,.int .i64 0,.int .i64 0,.int .i64 0] 29;obtain⟨x0,x1,x2,x3,x4⟩:=X.Ad;have HX:=Aoy X;have HNO:=Aoy hno;clear X hno hb2;unfold A0t
  go_wp2_with fail
  refine(HSP.out _).mono ?_
  intro e w3 h3;obtain⟨rfl,hb3⟩:=h3.none HNO.out;have Y:=(HX.out.step hb3).alloc (.cells #[.slice none 0 0,.slice none 0 0,.int .i64 0,.int .i64 0,.int .i64 0] 29);have Z:=(A9.new w3 #[.slice none 0 0,.slice none 0 0,.int .i64 0,.int .i64 0,.int .i64 0] 29);have HY:=Aoy (And.intro Y Z)
  have HS:Hid (∀W,Calls Vp.prog 8 #[.agg #[.slice none 0 0,.slice none 0 0,.int .i64 0,.int .i64 0,.int .i64 0],.agg #[.slice none 0 0,.slice none 0 0,.int .i64 0,.int .i64 0,.int .i64 0]] W fun e w'=>e=.returned (.bool true)/\Below W.heap.size W w'):=fun W =>
   Ng none none none none 0 0 0 0 0 [] [] rfl rfl (by omega) 0 0 0 W (Sl.nil _ _) (Sl.nil _ _) (Sl.nil _ _) (Sl.nil _ _)
  clear x0 x1 x2 x3 x4 h3 hb3 HX;obtain⟨x0,x1,x2,x3,x4⟩:=Y.Ad;obtain⟨y0,y1,y2,y3,y4⟩:=Z.Ad;clear Y Z;unfold A0t
  go_wp2_with fail
  refine(HS.out _).mono ?_
  rintro e w4 ⟨rfl,hb4⟩;clear x0 x1 x2 x3 x4 y0 y1 y2 y3 y4;obtain⟨x0,x1,x2,x3,x4⟩:=(HY.out.1.step hb4).Ad;obtain⟨y0,y1,y2,y3,y4⟩:=(HY.out.2.step hb4).Ad
  go_wp2_with fail
  refine(HS.out _).mono ?_
  rintro e w5 ⟨rfl,-⟩
  go_wp2
  go_ret
  rfl
 ·obtain⟨s1,hs1⟩:∃s,s=Wc ⟨size,A4,cx,cy,d0⟩ 1 L:=⟨_,rfl⟩;obtain⟨s2,hs2⟩:∃s,s=Wc ⟨size,A4,cx,cy,d0⟩ (-1) L:=⟨_,rfl⟩;obtain⟨s3,hs3⟩:∃s,s=Wc ⟨size,A4,cx,cy,d0⟩ 0 L:=⟨_,rfl⟩;have HSM:=Aoy (And.intro hs1 (And.intro hs2 hs3));rw[<-hs1,<-hs2,<-hs3];clear hs1 hs2 hs3;have X:=A9.new w2 #[.slice (some ⟨gp,0,none⟩) n cp,.slice (some ⟨g,0,none⟩) n cap,.int .i64 s1,.int .i64 s2,.int .i64 s3] 29;obtain⟨x0,x1,x2,x3,x4⟩:=X.Ad;have HX:=Aoy X;have HK:=Aoy (And.intro k1 (And.intro k2 (And.intro k3 (And.intro k4 (And.intro k5 (And.intro k6 k7))))));have HR:=Aoy (And.intro (Es r1) (Es r2));have HL:=Aoy (And.intro r3 r4);have H7:=Aoy r7;have hcp:=S8 r5 r1;have hcpM:=Afv r1;have hcap:=S8 r5 r2;clear X k1 k2 k3 k4 k5 k6 k7 r1 r2 r3 r4 r7 hb2
  go_wp2_with fail
  refine(HSP.out _).mono ?_
  intro e w3 h3;obtain⟨⟨gp',cp',g',cap',n',P',rfl,q1,q2,q3,q4,-,-,-⟩,hb3⟩:=h3.told HK.out.1 HK.out.2.1 HK.out.2.2.1 HK.out.2.2.2.1 HK.out.2.2.2.2.1 HK.out.2.2.2.2.2.1 HK.out.2.2.2.2.2.2;obtain rfl:n=n':=HL.out.2.symm.trans q4;obtain rfl:P=P':=A3v (HL.out.1.trans q3.symm);rw[<-HSM.out.1,<-HSM.out.2.1,<-HSM.out.2.2];have hb23:Below w2.heap.size w2 (w3.alloc (.cells #[.slice (some ⟨gp',0,none⟩) n cp',.slice (some ⟨g',0,none⟩) n cap',.int .i64 s1,.int .i64 s2,.int .i64 s3] 29)):=(HX.out.step hb3).alloc _ |>.old
  have Y:=(HX.out.step hb3).alloc (.cells #[.slice (some ⟨gp',0,none⟩) n cp',.slice (some ⟨g',0,none⟩) n cap',.int .i64 s1,.int .i64 s2,.int .i64 s3] 29);have Z:=(A9.new w3 #[.slice (some ⟨gp',0,none⟩) n cp',.slice (some ⟨g',0,none⟩) n cap',.int .i64 s1,.int .i64 s2,.int .i64 s3] 29);have HR3:=Aoy (And.intro (HR.out.1.step hb23) (HR.out.2.step hb23));have HS:=Aoy (Ng (some ⟨gp,0,none⟩) (some ⟨gp',0,none⟩) (some ⟨g,0,none⟩) (some ⟨g',0,none⟩) n cp cp' cap cap' P (L.map (Iu ⟨size,A4,cx,cy,d0⟩ 0)) (by have:=congrArg List.length HL.out.1;rw[Aqs]at this;rw[this,HL.out.2]) (by rw[Aqs];exact HL.out.2) (by omega) s1 s2 s3 _ HR3.out.1 ((Es q1).step Z.old) HR3.out.2 ((Es q2).step Z.old))
  have HY:=Aoy Y;clear x0 x1 x2 x3 x4 h3 hb3 HX hb23 q1 q2 q3 q4 HR;obtain⟨x0,x1,x2,x3,x4⟩:=Y.Ad;obtain⟨y0,y1,y2,y3,y4⟩:=Z.Ad;clear Y Z
  go_wp2_with fail
  refine HS.out.mono ?_
  rintro e w4 ⟨rfl,hb4⟩;have HY4:=Aoy (HY.out.step hb4);have HR4:=Aoy (And.intro (HR3.out.1.step hb4) (HR3.out.2.step hb4));clear x0 x1 x2 x3 x4 y0 y1 y2 y3 y4 hb4 HS HY HR3;obtain⟨x0,x1,x2,x3,x4⟩:=HY4.out.Ad;clear HSP;have hPL:=congrArg List.length HL.out.1;rw[Aqs]at hPL;have hPn:P.length=n:=hPL.trans HL.out.2;obtain⟨e1,e2,e3,e4,e5,e6,e7⟩:=HK.out;have hmk:Wi cx cy (d0:Int) size:=by rw[<-e1];exact e4
  have hm:(Be A4).toNat<=31:=by unfold Be;omega
  have hpg:PG ⟨size,A4,cx,cy,d0⟩ bd L:=A01 (c:=⟨size,A4,cx,cy,d0⟩) hm hmk e6 e7 e5
  have hwhole:Dt P n=true:=by
   have:=hpg;rw[<-HL.out.1]at this;have:=this.whole (by omega)
   rwa [hPn]at this
  have HW:Hid (∀W,Below w4.heap.size w4 W->Calls Vp.prog 11 #[.agg #[.slice (some ⟨gp,0,none⟩) n cp,.slice (some ⟨g,0,none⟩) n cap,.int .i64 s1,.int .i64 s2,.int .i64 s3]] W fun e w'=>e=.returned (.bool true)/\Below W.heap.size W w'):=fun W hb=>by
   have:=Ol (some ⟨gp,0,none⟩) (some ⟨g,0,none⟩) cp n cap s1 s2 s3 P (by omega) (by omega) hcpM (fun s hs=>by have:=H7.out s hs;omega) W (HR4.out.1.step hb)
   rwa [hPn,hwhole]at this
  obtain⟨d',s',A,B,f1,f2,hM⟩:=hmk;have hs8:=hM.s8;have hd10:=hM.d10;have hdd:d0=d':=by omega
  subst hdd;have htot:=hpg.tot
  have hT:size.toNat*size.toNat*4^(10-d0)<=67108864:=by
   have h1:size.toNat<=8:=by omega
   have h2:=Aqh h1 h1;have h3:4^(10-d0)<=4^10:=Api (by decide) (by omega)
   exact Aqh h2 h3
  have hlen:=hpg.len;dsimp only at htot;generalize hTT:size.toNat*size.toNat*4^(10-d0)=T at htot hT;have g1:s1=(sE ⟨size,A4,cx,cy,d0⟩ 1 L:Nat):=by rw[HSM.out.1];exact Mt (by omega)
  have g2:s2=(sE ⟨size,A4,cx,cy,d0⟩ (-1) L:Nat):=by rw[HSM.out.2.1];exact Mt (by omega)
  have g3:s3=(sE ⟨size,A4,cx,cy,d0⟩ 0 L:Nat):=by rw[HSM.out.2.2];exact Mt (by omega)
  obtain⟨all,hall⟩:∃all:Int,all=(T:Int):=⟨_,rfl⟩;obtain⟨s12,hs12⟩:∃s12:Int,s12=s1+s2:=⟨_,rfl⟩;have v1:IntKind.i64.wrap (s1+s2)=s12:=by rw[hs12];exact Aq4 _ (by omega)
  have v2:IntKind.i64.wrap (s12+s3)=all:=by rw[show s12+s3=all from by omega];exact Aq4 _ (by omega)
  obtain⟨m,hmm⟩:∃m:Int,m=size*size:=⟨_,rfl⟩
  have hm0:0<=m/\m<=64:=by
   rw[hmm,f2];have:=Aqh hs8 hs8
   exact⟨by exact_mod_cast Aq1 _,by exact_mod_cast this⟩
  have v3:IntKind.i64.wrap (size*size)=m:=by rw[<-hmm];exact Aq4 _ (by omega)
  obtain⟨sh1,hs1⟩:∃s:Nat,10-deep=(s:Int):=⟨10-d0,by omega⟩
  obtain⟨sh2,hs2⟩:∃s:Nat,2 *(sh1:Int)=(s:Int):=⟨2*sh1,by omega⟩
  have hs3:sh2<=20:=by omega
  have v4:IntKind.i64.wrap (10-deep)=(sh1:Int):=by rw[hs1];exact Aq4 _ (by omega)
  have v5:IntKind.i64.wrap (2 *(sh1:Int))=(sh2:Int):=by rw[hs2];exact Aq4 _ (by omega)
  have hsz:size.toNat*size.toNat=m.toNat:=by rw[hmm,f2,Aqk];rfl
  have hsh:m*2^sh2=all:=by
   have q1:sh2=2 *(10-d0):=by omega
   have q2:m=(m.toNat:Nat):=by omega
   rw[q1,hall,<-hTT,hsz,A8y ⟨10-d0,by omega⟩,Apx,<-q2]
  have v6:wrap64 (m*2^sh2)=all:=by rw[hsh];exact Fv (by omega) (by omega)
  obtain⟨b3,hb3⟩:∃b3:Int,b3=3*budget:=⟨_,rfl⟩;obtain⟨b31,hb31⟩:∃b31:Int,b31=b3+1:=⟨_,rfl⟩;have v7:IntKind.i64.wrap (3*budget)=b3:=by rw[<-hb3];exact Aq4 _ (by omega)
  have v8:IntKind.i64.wrap (b3+1)=b31:=by rw[<-hb31];exact Aq4 _ (by omega)
  have hnl:(n:Int)<=b31:=by omega
  have hless:Hid (∀e w',Hm w4 cx cy deep size A4 (wrap64 (budget-1)) (fun L=>L.Pairwise (fun a b=>Op.bytesLess b a=false)) e w'->Below w4.heap.size w4 w'/\∃(q:Bool) (a0 a1:Option Addr) (m0 c0 m1 c1:Nat) (l1 l2 l3:Int),e=.returned (.tuple #[.agg #[.slice a0 m0 c0,.slice a1 m1 c1,.int .i64 l1,.int .i64 l2,.int .i64 l3],.bool q]) /\(q=true->l1<=s1/\l2<=s2/\s3<=l3)):=fun e w' ⟨hb,ho⟩=>⟨hb,by
   rcases ho with⟨rfl,hno⟩ |⟨d0',bd',L1,G1,j1,j2,j3,j4,⟨gp1,cp1,g1,cap1,n1,P1,rfl,i1,i2,i3,i4,i5,i6,i7⟩,j5,j6,j7⟩
   ·exact⟨false,_,_,_,_,_,_,_,_,_,rfl,fun h=>by cases h⟩
   ·refine⟨true,_,_,_,_,_,_,_,_,_,rfl,fun _=>?_⟩
    obtain rfl:d0=d0':=by omega
    have hbd:budget=(bd':Int)+1:=by
     rw[Fv (by omega) (by omega)]at j2
     omega
    obtain rfl:bd=bd'+1:=by omega
    have hmk:Wi cx cy (d0:Int) size:=by rw[<-e1];exact e4
    have kpg:PG ⟨size,A4,cx,cy,d0⟩ bd' L1:=A01 (c:=⟨size,A4,cx,cy,d0⟩) hm hmk j6 j7 j5;have ktot:=kpg.tot;dsimp only at ktot;rw[hTT]at ktot;have q1:=Xt (c:=⟨size,A4,cx,cy,d0⟩) hm hmk e6 e7 e5 j6 j7 j5 (v:=1) (by decide)
    have q2:=Xt (c:=⟨size,A4,cx,cy,d0⟩) hm hmk e6 e7 e5 j6 j7 j5 (v:=-1) (by decide)
    rw[Mt (by omega),Mt (by omega),Mt (by omega)]
    omega⟩
  clear hpg hwhole htot hlen g1 g2 g3 hTT hT hsz hsh hM e1 e2 e3 e4 e5 e6 e7 hPL hPn f1 f2 hall hs12 hmm hs1 hs2 hb3 hb31 hd10 hs8 hm
  go_wp2_with fail
  refine(Qv cx cy deep size A4 _ hx hy _).mono ?_
  intro e w5 ho;obtain⟨hb5,q,a0,a1,m0,c0,m1,c1,l1,l2,l3,rfl,hq⟩:=hless.out e w5 ho;clear ho hless x0 x1 x2 x3 x4;have HB5:=Aoy hb5;have Y5:=(HY4.out.step hb5).alloc (.cells #[.slice a0 m0 c0,.slice a1 m1 c1,.int .i64 l1,.int .i64 l2,.int .i64 l3] 29);have Z5:=A9.new w5 #[.slice a0 m0 c0,.slice a1 m1 c1,.int .i64 l1,.int .i64 l2,.int .i64 l3] 29;clear hb5
  go_upto_region 9 with fail
  go_upto_region 10 with fail
  rw[v6];have HBA:=Aoy (HB5.out.alloc HB5.out.size (.cells #[.slice a0 m0 c0,.slice a1 m1 c1,.int .i64 l1,.int .i64 l2,.int .i64 l3] 29));have HYZ:=Aoy (And.intro Y5 Z5);obtain⟨x0,x1,x2,x3,x4⟩:=Y5.Ad;clear v3 v4 v5 v6 hs3 hm0 Y5 Z5 HB5;generalize w5.alloc (.cells #[.slice a0 m0 c0,.slice a1 m1 c1,.int .i64 l1,.int .i64 l2,.int .i64 l3] 29)=w6 at *
  go_wp2_with fail
  refine(HW.out _ HBA.out).mono ?_
  rintro e w7 ⟨rfl,hb7⟩;clear x0 x1 x2 x3 x4;obtain⟨x0,x1,x2,x3,x4⟩:=(HYZ.out.1.step hb7).Ad;obtain⟨y0,y1,y2,y3,y4⟩:=(HYZ.out.2.step hb7).Ad
  cases q with
  | false =>
    go_wp2
    go_ret
    rfl
  | true =>
    obtain⟨q1,q2,q3⟩:=hq rfl
    go_wp2
    go_ret
    rfl
end
section
open Go.RowKit Go.Conc Co Ok Lr Tl Bar
def cutAt (W:World)(b:Nat)(C:Array Value)(t:TypeId)(n:Nat):World:={ W with heap:=W.heap.setIfInBounds b (.cells (C.extract 0 n) t (0,(C.extract 0 n).size)) }
section
variable {W : World} {b off : Nat} {C : Array Value} {t : TypeId} {fr : Nat × Nat} {xs : List Value} (hb : W.heap[b]? = some (.cells C t fr)) (hs : ∀ i v, xs[i]? = some v -> W.cell? ⟨b, off + i, none⟩ = some v)
include hb hs
theorem Ahi {tV:TypeId}:Sl (cutAt W b C tV (off+xs.length)) (some ⟨b,off,none⟩) xs:=by
 refine .inr ⟨b,off,rfl,fun i v hv=>?_⟩
 have h:=hs i v hv;have hlt:b<W.heap.size:=(Aoz.1 hb).1;have hi:i<xs.length:=(Apg.1 hv).1;unfold World.cell? at h ⊢;rw[hb]at h
 have hc:(cutAt W b C tV (off+xs.length)).heap[b]?=some (.cells (C.extract 0 (off+xs.length)) tV (0,(C.extract 0 (off+xs.length)).size)):=by
  unfold cutAt;simp[hlt]
 rw[hc];have h:C[off+i]?=some v:=h
 show(C.extract 0 (off+xs.length))[off+i]?=some v
 rw[Array.getElem?_extract,Apb (by have:=(Aoz.1 h).1;omega),Aqr]
 exact h
theorem Abf {i:Nat}{v:Value}(hi:off<=i)(h1:(C.extract 0 (off+xs.length))[i]?=some v):v∈xs/\C[i]?=some v:=by
 rw[Array.getElem?_extract]at h1
 split at h1
 ·rename_i hlt
  rw[Aqr]at h1
  have hj:i-off<xs.length:=by
   omega
  obtain⟨u,hu⟩:∃u,xs[i-off]?=some u:=⟨_,Apd hj⟩;have h:=hs (i-off) u hu;unfold World.cell? at h;rw[hb]at h;have h:C[off +(i-off)]?=some u:=h;rw[Nat.add_sub_cancel' hi,h1]at h
  cases h
  exact⟨Aq7 hu,h1⟩
 ·cases h1
end
abbrev tNo:TypeId:=1000000007
theorem Aj0:Vp.prog.info? tNo=none:=by kernel_rfl
theorem Afq {P:Program}{t:TypeId}(h1:P.cellsOf t=1)(h2:P.bytesOf t=1)(hu:∀d off,byteOfCell P (d+1) t off=if off=0 then some 0 else none)(hv:∀d off,cellOfByte P (d+1) t off=if off=0 then some 0 else none):∀n l,mvP P t n l:=by
 intro n l off m off' hl hm h;have hd:P.depth=2 *(P.types.size+Made.depth)+1+1:=rfl;unfold cellAtBytes at h;rw[h1,h2,hd]at h;simp only[hu,hv,Nat.mod_one,Nat.div_one,Ata,Ats]at h;simp at h
 omega
theorem Aj6 {X:Cx}{B:Lk}{V W:World}(h:WR X B V W):WR X B { V with tape:=W.tape,drawn:=W.drawn } W:=by
 have h1:=h.tape;have h2:=h.drawn;rw[h1,h2]
 exact h
end
section
open Go.RowKit Go.Conc Co Ok Lr Tl Bar
structure Pn (cl gl:List Nat)(f:Nat):Prop where
 Alm:(cl.filter fun f=>!(ext.contains f)).all (chk Vp.prog tmL cl gl)=true
 Aln:((15 :: cl).filter fun f=>!(ext.contains f)).all (chk Vp.prog [] (15 :: cl) gl)=true
 not:cl.contains 15=false
 mem:cl.contains f=true
 ini:Tryz.prog.inits.idxOf? f=none
section
variable {cl gl : List Nat} {f : Nat} (R : Pn cl gl f) {Q : String -> Code -> Prop} {F : Nat -> Prop} {L : Nat -> Nat} {lf : ∀ b, L b ≠ 0 -> F b} (hg0 : ∀ g ∈ gl, L g = 0)
include R hg0
theorem Ago:Whole (Td Vp.prog tmL cl gl Q (fun _=>False) F False L lf) Vp.prog Tryz.prog :=
 Yl Rb Vp.Pj.symm Vp.size.symm (fun f hf=>by
  have ht:f≠15:=fun e=>by
   subst e;have:=R.not;rw[Bool.eq_false_iff]at this
   exact this (by simpa using hf)
  exact⟨A4c R.Alm f hf,fun n hn=>by simp only[Arq,Prod.mk.injEq]at hn;exact ht hn.1,Ag2 ht⟩)
 (fun f ⟨n,hn⟩=>by
  simp only[Arq,Prod.mk.injEq]at hn;obtain⟨rfl,_⟩:=hn
  exact⟨Vp.fT,Tryz.f15,Vp.Ql,Tryz.func15,by kernel_rfl,by kernel_rfl,by kernel_rfl,by kernel_rfl,by kernel_rfl⟩)
 A85 fun g h=>⟨id,hg0 g h⟩
theorem Agp:Whole (Td Vp.prog [] (15 :: cl) gl Q (fun _=>False) F False L lf) Vp.prog Vp.prog :=
 Ym Rb rfl rfl (fun f hf=>⟨A4c R.Aln f hf,(fun n hn=>by cases hn),rfl⟩) (fun f ⟨n,hn⟩=>by cases hn) (fun f=>.inl rfl) fun g h=>⟨id,hg0 g h⟩
theorem Abm (hV:A4b){args:Array Value}{W0 V0:World}{B:Lk}(hB:∀x y,B x y->F x)
 (hw:WR (Td Vp.prog tmL cl gl Q (fun _=>False) F False L lf) B V0 W0) (hwV:WR (Td Vp.prog [] (15 :: cl) gl Q (fun _=>False) F False L lf) B V0 V0)
 (ha:AR (Td Vp.prog tmL cl gl Q (fun _=>False) F False L lf) B args args) (haV:AR (Td Vp.prog [] (15 :: cl) gl Q (fun _=>False) F False L lf) B args args)
 (hc:∀τ d,Calls Vp.prog f args { V0 with tape:=τ,drawn:=d } fun e _=>e=.returned (.bool true)) :
 Co.Ends Tryz.prog (fun v w'=>v=.bool true/\Below W0.heap.size W0 w') #[G (Frame.enter Tryz.prog f args .normal) []] W0 none #[]:=by
 have hmem:f∈cl:=by simpa using R.mem
 have hnot:¬∃n,(f,n)∈tmL:=fun⟨n,hn⟩=>by
  simp only[Arq,Prod.mk.injEq]at hn;obtain⟨rfl,_⟩:=hn;have:=R.not;rw[R.mem]at this
  cases this
 have hT:=Ago R hg0 (Q:=Q) (F:=F) (L:=L) (lf:=lf);have hTV:=Agp R hg0 (Q:=Q) (F:=F) (L:=L) (lf:=lf);have noT:∀f,¬(Td Vp.prog [] (15 :: cl) gl Q (fun _=>False) F False L lf).T f:=fun f ⟨n,hn⟩=>by cases hn
 have hfV:En (Td Vp.prog [] (15 :: cl) gl Q (fun _=>False) F False L lf) B (Frame.enter Vp.prog f args .normal) (Frame.enter Vp.prog f args .normal):=by
  rcases Of (P:=Vp.prog) (P':=Vp.prog) (B:=B) (cs:=[]) (cs':=[]) hTV.hF (f:=f) (.inl (Atv _ hmem)) (fun h=>absurd h (noT _)) haV .normal (fun h=>absurd h (noT _)) .nil with⟨h,_⟩ |⟨g,_,_,_,⟨h,_⟩,_⟩
  ·exact h
  ·exact absurd h (noT _)
 have hf:En (Td Vp.prog tmL cl gl Q (fun _=>False) F False L lf) B (Frame.enter Vp.prog f args .normal) (Frame.enter Tryz.prog f args .normal):=by
  rcases Of (P:=Vp.prog) (P':=Tryz.prog) (B:=B) (cs:=[]) (cs':=[]) hT.hF (f:=f) (.inl hmem) (fun h=>absurd h hnot) ha .normal (fun h=>absurd h hnot) .nil with⟨h,_⟩ |⟨g,p,p',k,⟨hg,_⟩,_,e,_⟩
  ·exact h
  ·obtain rfl:f=g:=congrArg Frame.fn e
   exact absurd hg hnot
 have hway:=Aj4 hTV noT (Q:=fun v _=>v=.bool true) (fun _ _ _ _ h=>h) (f:=f) (args:=args) (V:=V0) ⟨B,V0,_,_,hwV,hfV,.nil,rfl⟩ fun τ d=>(hc τ d).mono fun e w h=>by
  subst h
  exact rfl
 have hs:=sim (Post:=fun v w'=>v=.bool true/\Below W0.heap.size W0 w') (m0:=W0.heap.size) (w0:=W0) hT id (Q:=fun v _=>v=.bool true) (Acx hV (fun x hx=>Fin.pop hx.1) _ _ _) (fun _ _ _ _ h=>h) (fun x hx=>⟨hx.1,by rw[hx.2];exact R.ini⟩)
  (fun B V v v' W hv hvv _ hk=>by
   subst hv
   cases hvv
   exact⟨rfl,⟨hk.os.1,hk.tape,hk.os.2,hk.size,hk.old⟩⟩) hway
 exact hs B W0.tape W0.drawn #[G (Frame.enter Tryz.prog f args .normal) []] W0 none #[] (fun _=>0) _ [] (Aj6 hw) hf .nil rfl ⟨fun x y h hn=>absurd (hB x y h) hn,Ap0 _,fun _ _=>rfl,rfl,⟨rfl,rfl⟩⟩ rfl (leavers_one _ _) (past_nil.mono (Aq1 _))
end
end
section
open Go.Conc Co Ok Lr Tl Bar
def A32:List Nat:=[4,5,6,7,8,11,12,13,14,16,17,18,19,20,21,22,23,24,25,26,27,28,29,30,31,34,35,36,37,38,39,40,41,42,43,44,45,46,47,48,49,50,51,52,53,54,55,56,60,61,62,63,64,65,66,67,68,69,70,71,72,73,74,75,76,82,83,84,85,86,87,88,89,90,91,92,93,94,95,96,97,98,99,100,101,102,116,117,118,119,120,121,122,123,124,125,126,136,137,138,139,140,144,145,146,147,164,165,166,167]
theorem Acz:(A32.filter fun f=>!(ext.contains f)).all (chk Vp.prog tmL A32 [1])=true:=by kernel_rfl
theorem Ad0:((15 :: A32).filter fun f=>!(ext.contains f)).all (chk Vp.prog [] (15 :: A32) [1])=true:=by kernel_rfl
theorem Aie:Pn A32 [1] 4:=⟨Acz,Ad0,by kernel_rfl,by kernel_rfl,by kernel_rfl⟩
end
section
open Go.RowKit Go.Conc Co Ok Lr Tl Bar
def idB (S:Nat->Prop):Lk:=fun x y=>S x/\y=x
theorem Alb {X:Cx}{S:Nat->Prop}{V W:World}(h1:W.tape=V.tape)(h2:W.drawn=V.drawn)(h3:W.os=V.os)(h4:W.output=V.output)(h5:W.heap.size=V.heap.size)(hN:X.N<=W.heap.size)
 (hF:∀x,X.F x↔S x) (hG:∀x,X.G x->S x) (hD:∀x,¬X.D x)
 (hS:∀x,S x->x<V.heap.size/\∃c c' t t' f,V.heap[x]?=some (.cells c t (0,c.size))/\W.heap[x]?=some (.cells c' t' f)/\PR X (idB S) (X.L x) c c'/\TyR X x t t' c.size):WR X (idB S) V W:=by
 refine⟨h1,h2,h3,h4,?_,?_,fun g h=>⟨hG g h,rfl⟩,?_,?_,fun x y _ h=>absurd h (hD x),fun x h=>absurd h (hD x),fun x h=>(hS x ((hF x).1 h)).1,?_,by rw[<-h5];exact hN,hN⟩
 ·rintro x y z ⟨_,rfl⟩ ⟨_,rfl⟩
  rfl
 ·rintro x y z ⟨_,rfl⟩ ⟨_,h⟩
  exact h
 ·rintro x y ⟨hs,rfl⟩ _ hn
  exact absurd ((hF _).2 hs) hn
 ·rintro x y ⟨hs,rfl⟩ _ _
  exact(hS _ hs).2
 ·rintro x y ⟨_,rfl⟩
  exact Iff.rfl
end
section
open Go.RowKit Go.Conc Co Ok Lr Tl Bar
section
variable {cl gl : List Nat} {f : Nat} (R : Pn cl gl f)
include R
theorem Qk (hV:A4b){args:Array Value}{W0 V0:World}{S:Nat->Prop}{L:Nat->Nat}(lf:∀b,L b≠0->S b)(hgS:∀g∈gl,S g)(hg0:∀g∈gl,L g=0)(hN:Vp.prog.globals.size<=W0.heap.size)
 (e1:V0.tape=W0.tape) (e2:V0.drawn=W0.drawn) (e3:V0.os=W0.os) (e4:V0.output=W0.output) (e5:V0.heap.size=W0.heap.size)
 (hS:∀x,S x->∃c c' t t' f',V0.heap[x]?=some (.cells c t (0,c.size))/\W0.heap[x]?=some (.cells c' t' f')/\c.size<=c'.size /\(∀i v,L x<=i->c[i]?=some v ->(∃k n,v=.int k n)/\c'[i]?=some v) /\
  ((L x=0/\t'=t) \/(L x≠0/\x<Vp.prog.globals.size/\t'=t/\∀n l,mvP Vp.prog t n l) \/(L x≠0/\Vp.prog.globals.size<=x/\Vp.prog.info? t=none)))
 (ha:∀X:Cx,X.L=L ->(∀g,¬X.D g)->AR X (idB S) args args)
 (hc:∀τ d,Calls Vp.prog f args { V0 with tape:=τ,drawn:=d } fun e _=>e=.returned (.bool true)) :
 Co.Ends Tryz.prog (fun v w'=>v=.bool true/\Below W0.heap.size W0 w') #[G (Frame.enter Tryz.prog f args .normal) []] W0 none #[]:=by
 have key:∀(X:Cx) (W:World),X.N=Vp.prog.globals.size->X.L=L ->(∀x,X.G x->x∈gl) ->(∀x,X.F x↔S x) ->(∀x,¬X.D x)->X.Mv=mvP Vp.prog ->(∀t,Vp.prog.info? t=none->X.Z t) ->
  W.tape=W0.tape->W.drawn=W0.drawn->W.os=W0.os->W.output=W0.output->W.heap.size=W0.heap.size ->
  (∀x,S x->∃c c' t t' f',V0.heap[x]?=some (.cells c t (0,c.size))/\W.heap[x]?=some (.cells c' t' f')/\c.size<=c'.size /\(∀i v,L x<=i->c[i]?=some v ->(∃k n,v=.int k n)/\c'[i]?=some v) /\
   ((L x=0/\t'=t) \/(L x≠0/\x<Vp.prog.globals.size/\t'=t/\∀n l,mvP Vp.prog t n l) \/(L x≠0/\Vp.prog.globals.size<=x/\Vp.prog.info? t=none)))->WR X (idB S) V0 W:=by
  intro X W h1 h2 h3 h4 h5 h6 h7 i1 i2 i3 i4 i5 hS
  refine Alb (i1.trans e1.symm) (i2.trans e2.symm) (i3.trans e3.symm) (i4.trans e4.symm) (i5.trans e5.symm) (by rw[h1,i5];exact hN) h4 (fun x hx=>hgS x (h3 x hx)) h5 fun x hx=>?_
  obtain⟨c,c',t,t',f',k1,k2,k3,k4,k5⟩:=hS x hx
  refine⟨(Aoz.1 k1).1,c,c',t,t',f',k1,k2,⟨k3,fun i v v' hi g1 g2=>?_⟩,?_⟩
  ·rw[h2]at hi;obtain⟨⟨k,n,rfl⟩,g3⟩:=k4 i v hi g1;rw[g3]at g2
   cases g2
   exact .int _ _
  ·unfold TyR;rw[h1,h2,h6]
   rcases k5 with⟨k5,rfl⟩ |⟨k5,k6,rfl,k7⟩ |⟨k5,k6,k7⟩
   ·exact .inr ⟨.inl k5,rfl,.inl k5⟩
   ·exact .inr ⟨.inr k6,rfl,.inr (k7 _ _)⟩
   ·exact .inl ⟨k5,k6,h7 _ k7⟩
 exact Abm R hg0 hV (Q:=fun _ _=>False) (F:=S) (L:=L) (lf:=lf) (B:=idB S) (V0:=V0) (fun x y h=>h.1)
  (key _ W0 rfl rfl (fun x h=>h) (fun _=>Iff.rfl) (fun _=>id) rfl (fun _=>id) rfl rfl rfl rfl rfl hS)
  (key _ V0 rfl rfl (fun x h=>h) (fun _=>Iff.rfl) (fun _=>id) rfl (fun _=>id) e1 e2 e3 e4 e5 fun x hx=>by
   obtain⟨c,c',t,t',f',k1,k2,k3,k4,k5⟩:=hS x hx
   refine⟨c,c,t,t,_,k1,k1,Ap0 _,fun i v hi g=>⟨(k4 i v hi g).1,g⟩,?_⟩
   rcases k5 with⟨k5,rfl⟩ |⟨k5,k6,rfl,k7⟩ |⟨k5,k6,k7⟩
   ·exact .inl ⟨k5,rfl⟩
   ·exact .inr (.inl ⟨k5,k6,rfl,k7⟩)
   ·exact .inr (.inr ⟨k5,k6,k7⟩))
  (ha _ rfl (fun _=>id)) (ha _ rfl (fun _=>id)) hc
end
def A6r (g:Nat)(W:World):Prop:=∀b C t fr,b≠g->b<Vp.prog.globals.size->W.heap[b]?=some (.cells C t fr)->∀n l,mvP Vp.prog t n l
def frz (W:World)(g:Nat)(C:Array Value)(t:TypeId):World:={ W with heap:=W.heap.setIfInBounds g (.cells C t (0,C.size)) }
section
variable {cl : List Nat} {g f : Nat} (R : Pn cl [g] f)
include R
theorem A1r (hV:A4b){a:Option Addr}{c:Nat}{bs:List UInt8}{W0:World}{CT:Array Value}{tT:TypeId}{frT:Nat×Nat}(hN:Vp.prog.globals.size<=W0.heap.size)(hL:A6r g W0)
 (hgb:W0.heap[g]?=some (.cells CT tT frT)) (hfl:∀(i:Nat) v,CT[i]?=some v->∃k n,v=.int k n) (hs:Sl W0 a (bs.map Da))
 (hblk:∀x,a=some x->∃b off C t fr,x=⟨b,off,none⟩/\W0.heap[b]?=some (.cells C t fr))
 (hlaw:∀w,(∀j,w.cell? ⟨g,j,none⟩=CT[j]?)->Sl w a (bs.map Da)->Calls Vp.prog f #[.slice a bs.length c] w fun e _=>e=.returned (.bool true)) :
 Co.Ends Tryz.prog (fun v w'=>v=.bool true/\Below W0.heap.size W0 w') #[G (Frame.enter Tryz.prog f #[.slice a bs.length c] .normal) []] W0 none #[]:=by
 have hgl:g<W0.heap.size:=(Aoz.1 hgb).1
 have hg0:(frz W0 g CT tT).heap[g]?=some (.cells CT tT (0,CT.size)):=by
  unfold frz;simp[hgl]
 have hgsz:(frz W0 g CT tT).heap.size=W0.heap.size:=by
  unfold frz;simp
 have hother:∀b,b≠g ->(frz W0 g CT tT).heap[b]?=W0.heap[b]?:=fun b hb=>by
  unfold frz;simp[Apu,Asb hb]
 have hcells:∀x,(frz W0 g CT tT).cell? x=W0.cell? x:=fun x=>by
  unfold World.cell?
  by_cases hb:x.block=g
  ·rw[hb,hg0,hgb]
  ·rw[hother _ hb]
 have htab:∀j,(frz W0 g CT tT).cell? ⟨g,j,none⟩=CT[j]?:=fun j=>by
  unfold World.cell?;rw[hg0]
  rfl
 have hsl:Sl (frz W0 g CT tT) a (bs.map Da):=by
  rcases hs with h |⟨b',off',e,h⟩
  ·exact .inl h
  ·exact .inr ⟨b',off',e,fun i v hv=>by rw[hcells];exact h i v hv⟩
 have one:∀x,x=g->∃c c' t t' f',(frz W0 g CT tT).heap[x]?=some (.cells c t (0,c.size))/\W0.heap[x]?=some (.cells c' t' f')/\c.size<=c'.size /\(∀i v,0<=i->c[i]?=some v ->(∃k n,v=.int k n)/\c'[i]?=some v) /\
  (((0:Nat)=0/\t'=t) \/((0:Nat)≠0/\x<Vp.prog.globals.size/\t'=t/\∀n l,mvP Vp.prog t n l) \/((0:Nat)≠0/\Vp.prog.globals.size<=x/\Vp.prog.info? t=none)):=by
  rintro x rfl
  exact⟨CT,CT,tT,tT,frT,hg0,hgb,Ap0 _,fun i v _ h=>⟨hfl i v h,h⟩,.inl ⟨rfl,rfl⟩⟩
 have alone:(∀x,a=some x->x.block=g/\x.spot=none)->Co.Ends Tryz.prog (fun v w'=>v=.bool true/\Below W0.heap.size W0 w') #[G (Frame.enter Tryz.prog f #[.slice a bs.length c] .normal) []] W0 none #[]:=fun hin =>
  Qk R hV (W0:=W0) (V0:=frz W0 g CT tT) (S:=fun x=>x=g) (L:=fun _=>0) (fun _ h=>absurd rfl h) (fun x hx=>by simpa using hx) (fun _ _=>rfl) hN rfl rfl rfl rfl hgsz one
   (fun X h1 h2=>AR.one (by
    cases a with
    | none=>exact .Lz _ _
    | some x =>
      obtain⟨k1,k2⟩:=hin x rfl;obtain⟨b,off,s⟩:=x;dsimp only at k1 k2;subst k1 k2
      exact .slice _ _ ⟨⟨⟨rfl,rfl⟩,h2 _⟩,⟨rfl,by rw[h1];exact Aq1 _⟩,rfl⟩))
   fun τ d=>hlaw _ htab hsl
 cases a with
 | none=>exact alone fun x h=>by cases h
 | some x =>
   obtain⟨b,off,C,t,fr,rfl,hb⟩:=hblk x rfl
   by_cases hbg:b=g
   ·exact alone fun x h=>by cases h;exact⟨hbg,rfl⟩
   have hlt:b<W0.heap.size:=(Aoz.1 hb).1
   have hs':∀i v,(bs.map Da)[i]?=some v->W0.cell? ⟨b,off+i,none⟩=some v:=by
    rcases hs with h |⟨b',off',e,h⟩
    ·intro i v hv;rw[h]at hv;simp at hv
    ·cases e
     exact h
   have hb':(frz W0 g CT tT).heap[b]?=some (.cells C t fr):=by rw[hother b hbg];exact hb
   have hs2:∀i v,(bs.map Da)[i]?=some v ->(frz W0 g CT tT).cell? ⟨b,off+i,none⟩=some v:=fun i v hv=>by rw[hcells];exact hs' i v hv
   obtain⟨tV,htV⟩:∃tV:TypeId,tV=if off=0\/b<Vp.prog.globals.size then t else tNo:=⟨_,rfl⟩
   have hc0:(cutAt (frz W0 g CT tT) b C tV (off +(bs.map Da).length)).heap[b]?=some (.cells (C.extract 0 (off +(bs.map Da).length)) tV (0,(C.extract 0 (off +(bs.map Da).length)).size)):=by
    unfold cutAt;simp[hgsz,hlt]
   have hcg:(cutAt (frz W0 g CT tT) b C tV (off +(bs.map Da).length)).heap[g]?=some (.cells CT tT (0,CT.size)):=by
    unfold cutAt;simp only[Apu,hbg,At6]
    exact hg0
   have hsz:(cutAt (frz W0 g CT tT) b C tV (off +(bs.map Da).length)).heap.size=W0.heap.size:=by
    unfold cutAt;simp[hgsz]
   refine Qk R hV (W0:=W0) (V0:=cutAt (frz W0 g CT tT) b C tV (off +(bs.map Da).length)) (S:=fun x=>x=g\/x=b) (L:=fun x=>if x=b then off else 0) (fun x h=>?_) (fun x hx=>.inl (by simpa using hx)) (fun x hx=>?_) hN rfl rfl rfl rfl hsz ?_ ?_ ?_
   ·by_cases e:x=b
    ·exact .inr e
    ·rw[Ap8 e]at h
     exact absurd rfl h
   ·obtain rfl:x=g:=by simpa using hx
    exact Ap8 fun e=>hbg e.symm
   ·rintro x (rfl|rfl)
    ·rw[Ap8 fun e=>hbg e.symm]
     exact⟨CT,CT,tT,tT,frT,hcg,hgb,Ap0 _,fun i v _ h=>⟨hfl i v h,h⟩,.inl ⟨rfl,rfl⟩⟩
    ·rw[Apb rfl]
     refine⟨_,C,tV,t,fr,hc0,hb,by rw[Array.size_extract];omega,fun i v hi h=>?_,?_⟩
     ·obtain⟨h3,h4⟩:=Abf hb hs' hi h;obtain⟨y,_,rfl⟩:=Aq5.1 h3
      exact⟨⟨_,_,rfl⟩,h4⟩
     ·by_cases h0:off=0
      ·rw[Apb (.inl h0)]at htV
       exact .inl ⟨h0,htV.symm⟩
      ·by_cases hgs:x<Vp.prog.globals.size
       ·rw[Apb (.inr hgs)]at htV;subst htV
        exact .inr (.inl ⟨h0,hgs,rfl,hL x C _ fr hbg hgs hb⟩)
       ·rw[Ap8 (fun h=>h.elim h0 hgs)]at htV
        exact .inr (.inr ⟨h0,Nat.le_of_not_lt hgs,by rw[htV];exact Aj0⟩)
   ·intro X h1 h2
    exact AR.one (.slice _ _ ⟨⟨⟨.inr rfl,rfl⟩,h2 _⟩,⟨rfl,by rw[h1];exact As8 (Apb rfl)⟩,rfl⟩)
   ·intro τ d
    refine hlaw _ (fun j=>?_) (Ahi hb' hs2)
    unfold World.cell?;rw[show({ cutAt (frz W0 g CT tT) b C tV (off +(bs.map Da).length)with tape:=τ,drawn:=d }:World).heap[g]?=some (.cells CT tT (0,CT.size))from hcg]
    rfl
end
end
section
open Go.ChangeShapes Go.WideShapes Go.ChangeAt Go.RowKit
theorem own:ownKnob Vp.prog.godebug=none:=by kernel_rfl
def Ml (P:Program)(ts:List TypeId):Bool:=ts.all fun t=>P.readableRec t && decide (t<P.types.size)
theorem Nj {H:Type}{enc:TypeId×Value->H}{P:Program}(hl:laidOutB P=true){W W':World}(hb:Below W.heap.size W W') :
 ∀{ts:List TypeId} {vs:List Value} {ds:List (DataW H)} {ps:List MemPlace},Ml P ts=true ->
  DataW.TrodAll enc P W 0 (fun _=>true) true ts vs ds ps ->(∀x∈ps,x.block<W.heap.size) ->
  DataW.TrodAll enc P W' 0 (fun b=>decide (b<W.heap.size)) true ts vs ds ps
 | [],[],[],_,_,h,_=>h
 | [],[],_ :: _,_,_,h,_=>h.elim
 | [],_ :: _,_,_,_,h,_=>h.elim
 | _ :: _,[],_,_,_,h,_=>h.elim
 | _ :: _,_ :: _,[],_,_,h,_=>h.elim
 | t :: ts,v :: vs,d :: ds,ps,hv,h,hlt=>by
   obtain⟨p,q,h1,h2,rfl⟩:=h;simp only[Ml,List.all_cons,Ap7,Apm]at hv
   exact⟨p,q,Below.trod hl hv.1.1 hv.1.2 h1 hb (fun x hx=>hlt x (by simp[hx])),
    Nj hl hb (by simpa [Ml]using hv.2) h2 (fun x hx=>hlt x (by simp[hx])),rfl⟩
theorem Ace {H:Type}{enc:TypeId×Value->H}{P:Program}{fn:Func}{s:ChangeSpec}{apart:Bool}{W W':World}{args:Array Value}{ds gs:List (DataW H)}{before:List MemPlace}{tb:TypeId}
 (hl:laidOutB P=true) (hp:Ml P fn.params.toList=true) (hvr:varsRowed P s.vars=true) (hr:fn.resultTypes=#[tb]) (htb:P.underlying tb=some .bool)
 (hW:DataW.Whole enc P fn.params.toList s.vars apart W args.toList ds gs before)
 (hs:(s.fn H (ds++gs)).results=[.lit (.bool true)]) (ha:(s.fn H (ds++gs)).args=ds) (hv:(s.fn H (ds++gs)).vars=gs)
 (hb:Below W.heap.size W W'):s.post enc P fn apart true false false W args (.bool true) W':=by
 have hlt:=hW.lt;have hW2:=hW;obtain⟨p,q,hA,hV,rfl,hz,hn⟩:=hW
 refine⟨ds,gs,p++q,[],p,q,hW2,?_,?_,?_,?_,fun h=>by cases h⟩
 ·rw[hs,hr]
  exact trodAll_mk1 (shut_bool htb true)
 ·rw[ha]
  exact Nj hl hb hp hA (fun x hx=>hlt x (by simp[hx]))
 ·rw[hv]
  exact Below.trodVars hl hb hvr hV
 ·exact hb.frame _
theorem A7b {α:Type}{f:α->Value}{R:α->Prop}{V:Nat->Value}:∀{len:Nat},(∀i,i<len->∃x,V i=f x/\R x)->∃X:List α,X.length=len/\∀i x,X[i]?=some x->V i=f x/\R x
 | 0,_=>⟨[],rfl,by simp⟩
 | k+1,hV=>by
   obtain⟨X,hX,hX2⟩:=A7b (len:=k) (fun i hi=>hV i (by omega))
   obtain⟨x,hx⟩:=hV k (by omega)
   refine⟨X++[x],by simp[hX],fun i u hu=>?_⟩
   by_cases hi:i<X.length
   ·rw[Ar4 hi]at hu;exact hX2 i u hu
   ·rw[Are (by omega)]at hu
    have:i-X.length=0:=by
     rcases Aqq (i-X.length)with h|h
     ·exact h
     ·rw[As9 (by simp;omega)]at hu;cases hu
    rw[this]at hu;simp at hu;subst hu;obtain rfl:i=k:=by omega
    exact hx
theorem Afs {H:Type}{enc:TypeId×Value->H}{P:Program}{w:World}{base:Nat}{spare:Nat->Bool}{held:Bool}{t e:TypeId}{α:Type}{f:α->Value}{R:α->Prop}(ht:P.underlying t=some (.slice e))(hc:P.cellsOf e=1)
 (he:∀n v (y:DataW H×List MemPlace),DataW.trod enc P w base spare held n e [v]=some y->∃x,v=f x/\R x) {n:Nat} {v:Value} {y:DataW H×List MemPlace} (h:DataW.trod enc P w base spare held n t [v]=some y) :
 ∃(a:Option Addr) (c:Nat) (xs:List α),v=.slice a xs.length c/\xs.length<=maxLen/\Sl w a (xs.map f) /\(∀x∈xs,R x)/\xs.length<=c:=by
 rcases Deep.open_slice1 ht hc h with⟨h,_⟩ |⟨a,len,cap,m,n,V,D,Pl,hcs,_,hl,hm,hmm,_,hx⟩
 ·simp at h;exact⟨none,0,[],h,Aq1 _,.inl rfl,by simp,Ap0 _⟩
 ·have hlm:len<=m:=by rw[hmm];split<;>omega
  have hV:∀i,i<len->∃x,V i=f x/\R x:=fun i hi=>he _ _ _ (hx i (by omega)).2
  obtain⟨X,hX,hX2⟩:=A7b hV;simp at hcs;subst hcs
  refine⟨some a,cap,X,by rw[hX],by omega,?_,fun x hx=>?_,by omega⟩
  ·by_cases h0:len=0
   ·exact .inl (by rw[List.eq_nil_of_length_eq_zero (show X.length=0 by omega)];rfl)
   ·have hspot:a=⟨a.block,a.off,none⟩:=by
     have:=(hx 0 (by omega)).1
     obtain⟨b,o,s⟩:=a
     cases s with
     | none=>rfl
     | some s=>simp[Addr.add,World.cell?]at this;split at this<;>simp at this
    refine .inr ⟨a.block,a.off,by rw[<-hspot],fun i v hv=>?_⟩
    rw[Apv]at hv;obtain⟨x,hx1,rfl⟩:=Ape.1 hv
    have hi:i<len:=by
     have:=(Apg.1 hx1).1;omega
    rw[<-(hX2 i x hx1).1,<-(hx i (by omega)).1]
    congr 1
    unfold Addr.add
    by_cases hi0:i=0
    ·rw[Apb hi0,hi0,Asf];exact hspot.symm
    ·rw[Ap8 hi0]
  ·obtain⟨i,hi,rfl⟩:=Auu hx
   exact(hX2 i _ (Apd hi)).2
theorem A5h {H:Type}{enc:TypeId×Value->H}{P:Program}{w:World}{base:Nat}{spare:Nat->Bool}{held:Bool}{r:Reach}{b0:Nat}{t e:TypeId}{v:Value}{d:DataW H}{p:List MemPlace}(ht:P.underlying t=some (.slice e))(hu:P.underlying e=some (.int .u8))(hc:P.cellsOf e=1)
 (hv:Value.okWide P w r b0 t v) (h:DataW.Trod enc P w base spare held t v d p):∃(a:Option Addr) (c:Nat) (bs:List UInt8),v=.slice a bs.length c/\bs.length<=maxLen/\bs.length<=c/\Sl w a (bs.map Da):=by
 obtain⟨fuel,hf⟩:=h;obtain⟨a,l,c,rfl⟩:∃a l c,v=.slice a l c:=okWide_slice ht hv
 obtain⟨a,c,xs,e,hn,hS,_,hc⟩:=Afs (f:=Da) (R:=fun _=>True) ht hc (fun n v y hy=>by
  obtain⟨x,e,_,hw⟩:=DataW.trod_int hu hy;simp at e;subst e;have:x.toNat<256/\0<=x:=by simp[Lit.wf,IntKind.min,IntKind.max,IntKind.signed,IntKind.bits]at hw;omega
  refine⟨⟨⟨x.toNat,by omega⟩⟩,?_,trivial⟩
  unfold Da
  congr 1
  show x=(x.toNat:Int)
  omega) (by simpa [Value.cells]using hf)
 exact⟨a,c,xs,e,hn,hc,hS⟩
end
section
open Go.ChangeShapes Go.WideShapes Go.ChangeAt Go.RowKit Go.Conc Ok
theorem A4u {P:Program}{w:World}(h:w.ShapedOpen P):P.globals.size<=w.heap.size:=by
 have hb:P.globals.size <(begin P (fun _ _=>0) default).world.heap.size:=by
  unfold begin;simp
  omega
 obtain⟨o,o0,h1,_⟩:=h.2 P.globals.size (Ap0 _) hb
 exact Ate (Aoz.1 h1).1
theorem Ab4 {P:Program}{w:World}{r:Reach}{b0:Nat}{t e:TypeId}{a:Option Addr}{l c:Nat}(ht:P.underlying t=some (.slice e))(hv:Value.okWide P w r b0 t (.slice a l c)) :
 ∀x,a=some x->∃b off C t fr,x=⟨b,off,none⟩/\w.heap[b]?=some (.cells C t fr):=by
 rintro x rfl;unfold Value.okWide at hv;rw[ht]at hv;unfold Cell.okWide at hv;rw[ht]at hv;have hv:Cell.ok P w r b0 t (.slice (some x) l c):=hv;unfold Cell.ok at hv;rw[ht]at hv;obtain⟨_,_,_,hs,row,cells,hsh,_⟩:=hv;obtain⟨b,off,s⟩:=x;dsimp only at hs hsh;subst hs;unfold World.shape? at hsh
 split at hsh
 ·rename_i C t fr h
  exact⟨b,off,C,t,fr,rfl,h⟩
 ·cases hsh
section
variable {H : Type} {enc : TypeId × Value -> H}
theorem A5b {a:Assume}{C:Checked}{os:Os}{f:FuncId}{fn:Func}{s:ChangeSpec}{conds:List PathCond}{apart fresh handsOn again:Bool}
 (own:ownKnob C.prog.godebug=none) (started:os.Started) (hfn:C.prog.funcs[f]?=some fn)
 (witness:∃(w:World) (tape:Tape) (i:Input),w.os=os /\(w.forCall tape i).Shaped C.prog/\i.vars=[]/\Input.okWide C.prog (w.forCall tape i) .any w.heap.size f i /\
  s.pre6 enc C.prog fn conds apart (w.forCall tape i).memory i.args/\a.holds C.prog (lone (Frame.enter C.prog f i.args .normal) [] (w.forCall tape i)))
 (runs:∀(W:World) (base:Nat) (args:Array Value) (ds gs:List (DataW H)) (before:List MemPlace),W.ShapedOpen C.prog ->
  (∀(j:Nat) t v,fn.params[j]?=some t->args[j]?=some v->Value.okWide C.prog W .any base t v) ->
  DataW.Whole enc C.prog fn.params.toList s.vars apart W args.toList ds gs before ->
  ∃M last o w' t',runNT C.prog (M+1) (solo (G (Frame.enter C.prog f args .normal) []) W) #[]=(.ended o w',t')/\runN C.prog M (solo (G (Frame.enter C.prog f args .normal) []) W)=.next last /\
   step C.prog last=.ended o w'/\Conc.Good C.prog (fun v W'=>s.post enc C.prog fn apart fresh handsOn again W args v W') last o w' t') :
 ReturnsInLeavingWide a C os f .any (s.pre6 enc C.prog fn conds apart) (s.post enc C.prog fn apart fresh handsOn again):=by
 refine returnsInLeavingWide_of_good own started witness ?_
 intro w tape i _ hsh _ hok hpre _;obtain⟨_,_,_,fn',hfn',_,_,_,_,hval⟩:=hok;obtain rfl:fn'=fn:=Aqp (hfn'.symm.trans hfn);obtain⟨⟨ds,gs,before,hw,_⟩,_⟩:=hpre;have hw':=DataW.Whole.of_heap (w':=w.forCall tape i) (by rfl) hw
 obtain⟨M,last,o,w',t',h1,h2,h3,h4⟩:=runs (w.forCall tape i) w.heap.size i.args ds gs before hsh hval hw'
 exact⟨M,last,o,w',t',h1,h2,h3,h4.mono fun v hp=>ChangeSpec.post_blind hp⟩
end
theorem Ahe:∀n l,mvP Vp.prog 4 n l :=
 Afq (by kernel_rfl) (by kernel_rfl) (fun d off=>by unfold byteOfCell;rw[Vp.Dw Tryz.underlying4]) (fun d off=>by unfold cellOfByte;rw[Vp.Dw Tryz.underlying4])
theorem Aon:ownKnob Tryz.prog.godebug=none:=by kernel_rfl
theorem A90:Vp.prog.globals=Tryz.prog.globals:=congrArg Tables.globals Vp.Pj
theorem Akm:laidOutB Tryz.prog=true:=by kernel_rfl
end
section
open Go.ChangeShapes Go.WideShapes Go.ChangeAt Go.RowKit Go.Conc Ok
theorem Vg (P:Program):(begin P (fun _ _=>0) default).world.heap[P.globals.size]?=some (.cells ((Array.range P.types.size).map fun t=>.int .u64 (Int.ofNat t)) 0):=by
 unfold begin;dsimp only
 have key:∀(A:Array Obj) (x a b c d:Obj),A.size=P.globals.size ->(((((A.push x).push a).push b).push c).push d)[P.globals.size]?=some x:=by
  intro A x a b c d h;rw[<-h];rw[Apc,Ap8 (by simp;omega),Apc,Ap8 (by simp;omega),Apc,Ap8 (by simp;omega),Apc,Ap8 (by simp),Apc,Apb rfl]
 exact key _ _ _ _ _ _ (by simp)
theorem Vh {P:Program}{W:World}(h:W.ShapedOpen P):W.heap[P.globals.size]?=some (.cells ((Array.range P.types.size).map fun t=>.int .u64 (Int.ofNat t)) 0):=by
 have hb:P.globals.size <(begin P (fun _ _=>0) default).world.heap.size:=by
  unfold begin;simp
  omega
 obtain⟨o,o0,h1,h2,h3⟩:=h.2 P.globals.size (Ap0 _) hb;rw[Vg]at h2;injection h2 with h2
 rw[Nat.sub_self,Ap8 (by decide)]at h3
 rw[h1,h3,<-h2]
theorem Zj {n i:Nat}{v:Value}(h:((Array.range n).map fun t=>(.int .u64 (Int.ofNat t):Value))[i]?=some v):∃k m,v=.int k m:=by
 rw[Aq8]at h;obtain⟨t,-,rfl⟩:=Ape.1 h
 exact⟨_,_,rfl⟩
end
end Go.Proofs.YtlfleicchbgcmaaGreat
