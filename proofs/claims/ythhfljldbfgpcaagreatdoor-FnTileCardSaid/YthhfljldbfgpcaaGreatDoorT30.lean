/- Merged texts: Tl, LrS. -/
import Derived.Conc.Own
import Derived.Conc.Events
import Derived.Test.YthhfljldbfgpcaaGreatDoorT29
set_option linter.all false
section
namespace Go.Proofs.YthhfljldbfgpcaaGreatDoor.Tl
open Go.Conc
def sft (τ:Tape) (a b:Nat) (w:World):World:={ w with tape:=τ,drawn:=w.drawn - a + b }
def Agrees (τ:Tape) (a b lim:Nat) (w:World):Prop:=a ≤ w.drawn ∧ ∀ n q,w.drawn ≤ n → n < lim → τ (n - a + b) q=w.tape n q
def resW {α:Type}:Result α → World
 | .ok _ w => w
 | .halt _ w => w
def mapW {α:Type} (f:World → World):Result α → Result α
 | .ok v w => .ok v (f w)
 | .halt h w => .halt h (f w)
section
variable {P:Program} {τ:Tape} {a b lim:Nat}
theorem Agrees.on {w w':World} (h:Agrees τ a b lim w) (hd:w.drawn ≤ w'.drawn) (ht:w'.tape=w.tape):Agrees τ a b lim w' :=
 ⟨Nat.le_trans h.1 hd,fun n q h1 h2 => by rw [ht]; exact h.2 n q (Nat.le_trans hd h1) h2⟩
theorem ask_mono {α:Type} (x:Ask α):∀ w:World,w.drawn ≤ (w.ask x).2.drawn ∧ (w.ask x).2.tape=w.tape:=by
 induction x with
 | done v => intro w; exact ⟨Nat.le_refl _,rfl⟩
 | ask what range k ih =>
   intro w
   unfold World.ask
   dsimp only
   split
   · exact ih 0 w
   · have:=ih ((Question.extern what range).cut (w.tape w.drawn (.extern what range))) { w with drawn:=w.drawn + 1 }
     exact ⟨Nat.le_trans (Nat.le_succ _) this.1,this.2⟩
theorem sys_mono (c:Sys) (w:World):w.drawn ≤ (w.sys c).2.drawn ∧ (w.sys c).2.tape=w.tape:=by
 unfold World.sys
 have:=ask_mono (Kernel.perform c w.os) w
 generalize w.ask (Kernel.perform c w.os)=r at this
 obtain ⟨⟨x,os⟩,w1⟩:=r
 cases x <;> first
   | exact ⟨Nat.le_refl _,rfl⟩
   | exact this
theorem viewStore_grow {w w':World} {at_ k:Addr} {u:TypeId} {v:Value} {q:Bool} {l:List Addr} (h:w.viewStore P at_ u k v q=.ok (w',l)):w'.tape=w.tape ∧ w'.drawn=w.drawn:=by
 unfold World.viewStore at h
 simp only [bind,Except.bind,pure,Except.pure] at h
 repeat' (split at h)
 all_goals first
   | (cases h; done)
   | (injection h with h; injection h with h1 h2; subst h1; exact ⟨rfl,rfl⟩)
theorem farStore_grow {w w':World} {a:Addr} {v:Value} {q:Bool} {l:List Addr} (h:w.farStore P a v q=.ok (w',l)):w'.tape=w.tape ∧ w'.drawn=w.drawn:=by
 unfold World.farStore at h
 split at h
 · split at h
   · rename_i r hr
     obtain ⟨w1,l1⟩:=r
     injection h with h
     injection h with h1 h2
     subst h1
     exact viewStore_grow hr
   · cases h
 · cases h
theorem run_mono {α:Type} (s:Sem α):∀ (w:World) (es:Array Event),w.drawn ≤ (resW (s.runT P w es).1).drawn ∧ (resW (s.runT P w es).1).tape=w.tape:=by
 induction s with
 | pure v => intro w es; exact ⟨Nat.le_refl _,rfl⟩
 | halt h => intro w es; exact ⟨Nat.le_refl _,rfl⟩
 | load m a k ih =>
   intro w es
   simp only [Sem.runT]
   split
   · exact ih _ _ _
   · split
     · exact ih _ _ _
     · exact ⟨Nat.le_refl _,rfl⟩
 | store m a v k ih =>
   intro w es
   have key:∀ (r:Result α × Array Event),(r=(.halt (.stuck "store: not the value of one cell") w,es) ∨ r=(match w.cell? a with
       | some _ =>
         if w.frozen? a then (.halt (.unsupported (.unsafePointer "a write to bytes that a string shares")) w,es)
         else k.runT P (w.setCell a v) (es.push ⟨.cell a,true,m == .atomic⟩)
       | none => match w.farStore P a v (m == .atomic) with
         | .ok (w,touched) => k.runT P w (es ++ touched.toArray.map (⟨.cell ·,true,m == .atomic⟩))
         | .error h => (.halt h w,es))) → w.drawn ≤ (resW r.1).drawn ∧ (resW r.1).tape=w.tape:=by
     rintro r (rfl | rfl)
     · exact ⟨Nat.le_refl _,rfl⟩
     · split
       · split
         · exact ⟨Nat.le_refl _,rfl⟩
         · exact ih (w.setCell a v) _
       · split
         · rename_i w1 l1 hf
           have h1:=farStore_grow hf
           have h2:=ih w1 (es ++ l1.toArray.map (⟨.cell ·,true,m == .atomic⟩))
           exact ⟨h1.2 ▸ h2.1,h2.2.trans h1.1⟩
         · exact ⟨Nat.le_refl _,rfl⟩
   refine key _ ?_
   cases v <;> first | exact .inl rfl | exact .inr rfl
 | new o k ih => intro w es; exact ih _ { w with heap:=w.heap.push o } es
 | shape r k ih => intro w es; exact ih _ w es
 | freeze a n k ih =>
   intro w es
   have h:=ih (w.freeze a n) es
   have:(w.freeze a n).drawn=w.drawn ∧ (w.freeze a n).tape=w.tape:=by
     unfold World.freeze
     split <;> exact ⟨rfl,rfl⟩
   rw [this.1,this.2] at h
   exact h
 | frozen a k ih => intro w es; exact ih _ w es
 | getObj r k ih =>
   intro w es
   simp only [Sem.runT]
   split
   · exact ⟨Nat.le_refl _,rfl⟩
   · exact ih _ _ _
   · exact ⟨Nat.le_refl _,rfl⟩
 | setObj r o k ih =>
   intro w es
   simp only [Sem.runT]
   split
   · exact ⟨Nat.le_refl _,rfl⟩
   · exact ih { w with heap:=w.heap.setIfInBounds r o } _
   · exact ⟨Nat.le_refl _,rfl⟩
 | choose q k ih =>
   intro w es
   simp only [Sem.runT]
   split
   · exact ih _ _ _
   · have:=ih (q.cut (w.tape w.drawn q)) { w with drawn:=w.drawn + 1 } es
     exact ⟨Nat.le_trans (Nat.le_succ _) this.1,this.2⟩
 | sys c k ih =>
   intro w es
   have h1:=sys_mono c w
   have h2:=ih (w.sys c).1 (w.sys c).2 (es.push ⟨.output,true,false⟩)
   exact ⟨Nat.le_trans h1.1 h2.1,h2.2.trans h1.2⟩
 | program k ih => intro w es; exact ih _ w es
 | mark m k ih => intro w es; exact ih w _
theorem viewStore_sft (w:World) (at_ k:Addr) (u:TypeId) (v:Value) (q:Bool) :
   (sft τ a b w).viewStore P at_ u k v q=match w.viewStore P at_ u k v q with
     | .ok (w',l) => .ok (sft τ a b w',l)
     | .error h => .error h:=by
 unfold World.viewStore
 rw [show (sft τ a b w).seen P at_ u k q=w.seen P at_ u k q from rfl]
 generalize w.seen P at_ u k q=sn
 by_cases ht:(!tight P P.depth u)=true
 · rw [if_pos ht,if_pos ht]; rfl
 rw [if_neg ht,if_neg ht]
 cases sn with
 | error e => rfl
 | ok y =>
   obtain ⟨c,e,fz,first,like,cells⟩:=y
   cases hb:v.bytes? with
   | none => rfl
   | some bytes =>
     dsimp only [bind,Except.bind,pure,Except.pure]
     by_cases hl:some bytes.length ≠ like.bytes?.map (·.length)
     · rw [if_pos hl,if_pos hl]; rfl
     rw [if_neg hl,if_neg hl]
     have key:∀ fo:Except String (Array Value),(fo.bind fun c => (Except.ok ({ sft τ a b w with heap:=(sft τ a b w).heap.setIfInBounds at_.block (.cells c e fz) },cells.map fun x => ({ block:=at_.block,off:=x.1 }:Addr)):Except String (World × List Addr))) =
         match (fo.bind fun c => (Except.ok ({ w with heap:=w.heap.setIfInBounds at_.block (.cells c e fz) },cells.map fun x => ({ block:=at_.block,off:=x.1 }:Addr)):Except String (World × List Addr))) with
         | .ok (w',l) => .ok (sft τ a b w',l)
         | .error h => .error h:=by
       intro fo
       cases fo <;> rfl
     exact key _
theorem farStore_sft (w:World) (x:Addr) (v:Value) (q:Bool) :
   (sft τ a b w).farStore P x v q=match w.farStore P x v q with
     | .ok (w',l) => .ok (sft τ a b w',l)
     | .error h => .error h:=by
 unfold World.farStore
 rw [show (sft τ a b w).heap=w.heap from rfl]
 split
 · rw [viewStore_sft]
   cases w.viewStore P _ _ x v q <;> rfl
 · rfl
theorem run_keeps {α:Type} (s:Sem α):∀ (w:World) (es:Array Event) (e:Event),e ∈ es → e ∈ (s.runT P w es).2:=by
 induction s with
 | pure v => intro w es e h; exact h
 | halt x => intro w es e h; exact h
 | load m a k ih =>
   intro w es e h
   simp only [Sem.runT]
   split
   · exact ih _ _ _ _ (by simp [h])
   · split
     · exact ih _ _ _ _ (by simp [h])
     · exact h
 | store m a v k ih =>
   intro w es e h
   have key:∀ (r:Result α × Array Event),(r=(.halt (.stuck "store: not the value of one cell") w,es) ∨ r=(match w.cell? a with
       | some _ =>
         if w.frozen? a then (.halt (.unsupported (.unsafePointer "a write to bytes that a string shares")) w,es)
         else k.runT P (w.setCell a v) (es.push ⟨.cell a,true,m == .atomic⟩)
       | none => match w.farStore P a v (m == .atomic) with
         | .ok (w,touched) => k.runT P w (es ++ touched.toArray.map (⟨.cell ·,true,m == .atomic⟩))
         | .error h => (.halt h w,es))) → e ∈ r.2:=by
     rintro r (rfl | rfl)
     · exact h
     · split
       · split
         · exact h
         · exact ih _ _ _ (by simp [h])
       · split
         · exact ih _ _ _ (by simp [h])
         · exact h
   refine key _ ?_
   cases v <;> first | exact .inl rfl | exact .inr rfl
 | new o k ih => intro w es e h; exact ih _ _ _ _ h
 | shape r k ih => intro w es e h; exact ih _ _ _ _ h
 | freeze a n k ih => intro w es e h; exact ih _ _ _ h
 | frozen a k ih => intro w es e h; exact ih _ _ _ _ h
 | getObj r k ih =>
   intro w es e h
   simp only [Sem.runT]
   split
   · exact h
   · exact ih _ _ _ _ (by simp [h])
   · exact h
 | setObj r o k ih =>
   intro w es e h
   simp only [Sem.runT]
   split
   · exact h
   · exact ih _ _ _ (by simp [h])
   · exact h
 | choose q k ih =>
   intro w es e h
   simp only [Sem.runT]
   split
   · exact ih _ _ _ _ h
   · exact ih _ _ _ _ h
 | sys c k ih => intro w es e h; exact ih _ _ _ _ (by simp [h])
 | program k ih => intro w es e h; exact ih _ _ _ _ h
 | mark m k ih => intro w es e h; exact ih _ _ _ (by simp [h])
theorem run_tl {α:Type} (s:Sem α):∀ (w:World) (es:Array Event),Agrees τ a b lim w → (∀ e ∈ (s.runT P w es).2,e.loc ≠ .output) → (resW (s.runT P w es).1).drawn ≤ lim →
   s.runT P (sft τ a b w) es=(mapW (sft τ a b) (s.runT P w es).1,(s.runT P w es).2):=by
 induction s with
 | pure v => intro w es _ _ _; rfl
 | halt h => intro w es _ _ _; rfl
 | load m x k ih =>
   intro w es hw ho hl
   simp only [Sem.runT] at ho hl ⊢
   rw [show (sft τ a b w).cell? x=w.cell? x from rfl,show (sft τ a b w).farLoad P x (m == .atomic)=w.farLoad P x (m == .atomic) from rfl]
   cases hc:w.cell? x with
   | some v =>
     rw [hc] at ho hl
     exact ih _ _ _ hw ho hl
   | none =>
     rw [hc] at ho hl
     dsimp only at ho hl ⊢
     cases hf:w.farLoad P x (m == .atomic) with
     | ok y =>
       rw [hf] at ho hl
       exact ih _ _ _ hw ho hl
     | error h => rfl
 | store m x v k ih =>
   intro w es hw
   have key:∀ (r r':Result α × Array Event),((r=(.halt (.stuck "store: not the value of one cell") w,es) ∧ r'=(.halt (.stuck "store: not the value of one cell") (sft τ a b w),es)) ∨ (r=(match w.cell? x with
       | some _ =>
         if w.frozen? x then (.halt (.unsupported (.unsafePointer "a write to bytes that a string shares")) w,es)
         else k.runT P (w.setCell x v) (es.push ⟨.cell x,true,m == .atomic⟩)
       | none => match w.farStore P x v (m == .atomic) with
         | .ok (w,touched) => k.runT P w (es ++ touched.toArray.map (⟨.cell ·,true,m == .atomic⟩))
         | .error h => (.halt h w,es)) ∧ r'=(match (sft τ a b w).cell? x with
       | some _ =>
         if (sft τ a b w).frozen? x then (.halt (.unsupported (.unsafePointer "a write to bytes that a string shares")) (sft τ a b w),es)
         else k.runT P ((sft τ a b w).setCell x v) (es.push ⟨.cell x,true,m == .atomic⟩)
       | none => match (sft τ a b w).farStore P x v (m == .atomic) with
         | .ok (w,touched) => k.runT P w (es ++ touched.toArray.map (⟨.cell ·,true,m == .atomic⟩))
         | .error h => (.halt h (sft τ a b w),es)))) → (∀ e ∈ r.2,e.loc ≠ .output) → (resW r.1).drawn ≤ lim → r'=(mapW (sft τ a b) r.1,r.2):=by
     rintro r r' (⟨rfl,rfl⟩ | ⟨rfl,rfl⟩) ho hl
     · rfl
     · rw [show (sft τ a b w).cell? x=w.cell? x from rfl,show (sft τ a b w).frozen? x=w.frozen? x from rfl,farStore_sft]
       cases hc:w.cell? x with
       | some v0 =>
         rw [hc] at ho hl
         dsimp only at ho hl ⊢
         by_cases hz:w.frozen? x=true
         · rw [if_pos hz,if_pos hz]; rfl
         · rw [if_neg hz] at ho hl
           rw [if_neg hz,if_neg hz]
           exact ih (w.setCell x v) _ ⟨hw.1,hw.2⟩ ho hl
       | none =>
         rw [hc] at ho hl
         dsimp only at ho hl ⊢
         cases hf:w.farStore P x v (m == .atomic) with
         | error h => rfl
         | ok y =>
           obtain ⟨w1,l1⟩:=y
           rw [hf] at ho hl
           obtain ⟨g1,g2⟩:=farStore_grow hf
           exact ih w1 _ (hw.on (Nat.le_of_eq g2.symm) g1) ho hl
   refine key _ _ ?_
   cases v <;> first | exact .inl ⟨rfl,rfl⟩ | exact .inr ⟨rfl,rfl⟩
 | new o k ih => intro w es hw ho hl; exact ih _ { w with heap:=w.heap.push o } _ ⟨hw.1,hw.2⟩ ho hl
 | shape r k ih => intro w es hw ho hl; exact ih _ _ _ hw ho hl
 | freeze x n k ih =>
   intro w es hw ho hl
   have h1:(w.freeze x n).drawn=w.drawn ∧ (w.freeze x n).tape=w.tape:=by
     unfold World.freeze
     split <;> exact ⟨rfl,rfl⟩
   have h2:(sft τ a b w).freeze x n=sft τ a b (w.freeze x n):=by
     unfold World.freeze
     split <;> rfl
   simp only [Sem.runT] at ho hl ⊢
   rw [h2]
   exact ih _ _ (hw.on (Nat.le_of_eq h1.1.symm) h1.2) ho hl
 | frozen x k ih => intro w es hw ho hl; exact ih _ _ _ hw ho hl
 | getObj r k ih =>
   intro w es hw ho hl
   simp only [Sem.runT] at ho hl ⊢
   rw [show (sft τ a b w).heap=w.heap from rfl]
   cases hc:w.heap[r]? with
   | none => rfl
   | some o =>
     rw [hc] at ho hl
     cases o <;> first
       | rfl
       | exact ih _ _ _ hw ho hl
 | setObj r o k ih =>
   intro w es hw ho hl
   simp only [Sem.runT] at ho hl ⊢
   rw [show (sft τ a b w).heap=w.heap from rfl]
   cases hc:w.heap[r]? with
   | none => rfl
   | some o' =>
     rw [hc] at ho hl
     cases o' <;> first
       | rfl
       | exact ih { w with heap:=w.heap.setIfInBounds r o } _ ⟨hw.1,hw.2⟩ ho hl
 | choose q k ih =>
   intro w es hw ho hl
   simp only [Sem.runT] at ho hl ⊢
   by_cases hq:q.forced=true
   · rw [if_pos hq] at ho hl
     rw [if_pos hq,if_pos hq]
     exact ih _ _ _ hw ho hl
   · rw [if_neg hq] at ho hl
     rw [if_neg hq,if_neg hq]
     have hm:=(run_mono (P:=P) (k (q.cut (w.tape w.drawn q))) { w with drawn:=w.drawn + 1 } es).1
     have e:τ (w.drawn - a + b) q=w.tape w.drawn q:=hw.2 _ _ (Nat.le_refl _) (Nat.lt_of_lt_of_le (Nat.lt_of_lt_of_le (Nat.lt_succ_self _) hm) hl)
     have e2:({ sft τ a b w with drawn:=(sft τ a b w).drawn + 1 }:World)=sft τ a b { w with drawn:=w.drawn + 1 }:=by
       have:=hw.1
       simp only [sft,World.mk.injEq,true_and,and_true]
       omega
     rw [e2,show (sft τ a b w).tape (sft τ a b w).drawn q=τ (w.drawn - a + b) q from rfl,e]
     exact ih _ _ _ (hw.on (by simp) rfl) ho hl
 | sys c k ih =>
   intro w es hw ho hl
   exact absurd rfl (ho ⟨.output,true,false⟩ (run_keeps (P:=P) (k (w.sys c).1) (w.sys c).2 (es.push ⟨.output,true,false⟩) _ (by simp)))
 | program k ih => intro w es hw ho hl; exact ih _ _ _ hw ho hl
 | mark m k ih => intro w es hw ho hl; exact ih _ _ hw ho hl
end
end Go.Proofs.YthhfljldbfgpcaaGreatDoor.Tl
end

section
namespace Go.Proofs.YthhfljldbfgpcaaGreatDoor.Lr
open Go.Conc Go.Proofs.YthhfljldbfgpcaaGreatDoor.Tl
def Tl1 (τ:Tape) (a b lim:Nat) (w:World) (r r':GStep):Prop :=
 ∀ fr cs W1 es,r=.go (G fr cs) W1 es → (w.drawn ≤ W1.drawn ∧ W1.tape=w.tape) ∧ (W1.drawn ≤ lim → r'=.go (G fr cs) (sft τ a b W1) es)
section
variable {X:Cx} {P P':Program} {B:Lk} {τ:Tape} {a b lim:Nat}
theorem tl_go {w:World} {g:Goroutine} {es:Array Event}:Tl1 τ a b lim w (.go g w es) (.go g (sft τ a b w) es):=by
 intro fr cs W1 e h
 cases h
 exact ⟨⟨Nat.le_refl _,rfl⟩,fun _ => rfl⟩
theorem tl_end {w w1:World} {o:Outcome} {es:Array Event} {r':GStep}:Tl1 τ a b lim w (.ended o w1 es) r':=fun _ _ _ _ h => by cases h
theorem tl_ended {w w1:World} {o:Outcome} {es es1:Array Event} {r':GStep}:Tl1 τ a b lim w (GStep.after es1 (.ended o w1 es)) r':=tl_end
theorem tl_after {w w1:World} {es:Array Event} {r1 r2 r':GStep} (hm:w.drawn ≤ w1.drawn ∧ w1.tape=w.tape) (h:Tl1 τ a b lim w1 r1 r2) (hr:w1.drawn ≤ lim → r'=GStep.after es r2):Tl1 τ a b lim w (GStep.after es r1) r':=by
 intro fr cs W1 e he
 obtain ⟨es2,h1,rfl⟩:=after_go he
 obtain ⟨g1,g2⟩:=h _ _ _ _ h1
 refine ⟨⟨Nat.le_trans hm.1 g1.1,g1.2.trans hm.2⟩,fun hl => ?_⟩
 rw [hr (Nat.le_trans g1.1 hl),g2 hl]
 rfl
theorem tl_run {α β:Type} {R:Lk → α → β → Prop} {s:Sem α} {s':Sem β} (hs:SR X P P' R B s s') {V W:World} (hw:WR X B V W) (hA:Agrees τ a b lim V) :
   (∃ v V1 es B1 d,s.runT P V #[]=(.ok v V1,es) ∧ (V.drawn ≤ V1.drawn ∧ V1.tape=V.tape) ∧ Agrees τ a b lim V1 ∧ (V1.drawn ≤ lim → s.runT P (sft τ a b V) #[]=(.ok v (sft τ a b V1),es)) ∧ Le B B1 ∧ R B1 v d ∧ ∃ W1,WR X B1 V1 W1) ∨
   (∃ v V1 es,s.runT P V #[]=(.halt (.panic v) V1,es) ∧ (V.drawn ≤ V1.drawn ∧ V1.tape=V.tape) ∧ (V1.drawn ≤ lim → s.runT P (sft τ a b V) #[]=(.halt (.panic v) (sft τ a b V1),es))) ∨
   ∃ h V1 es,s.runT P V #[]=(.halt h V1,es) ∧ Mute h:=by
 obtain ⟨hcl,hr⟩:=hs V W hw
 have e0:(s.runT P V #[]).1=s.run P V:=by rw [Sem.runT_eq]
 rcases hcl with ⟨h,V1,e1,e2⟩ | hcl
 · refine .inr (.inr ⟨h,V1,(s.runT P V #[]).2,?_,e2⟩)
   rw [← e1,← e0]
 have hm:=run_mono (P:=P) s V #[]
 have ht:=run_tl (P:=P) (lim:=lim) s V #[] hA (fun e he => (hcl #[] e he).elim (fun h => by simp at h) id)
 have hp:s.runT P V #[]=(s.run P V,(s.runT P V #[]).2):=by rw [← e0]
 rw [e0] at hm ht
 generalize (s.runT P V #[]).2=es at hp ht
 generalize s.run P V=r at hm ht hp hr
 match r,hr with
 | .ok v V1,⟨B',W',d,n,h1,h2,h3,h4,h5⟩ =>
   exact .inl ⟨v,V1,es,B',d,hp,hm,hA.on hm.1 hm.2,ht,h1.le,h4,W',h2⟩
 | .halt x V1,k =>
   rcases halt_cases x with ⟨v,rfl⟩ | hn
   · exact .inr (.inl ⟨v,V1,es,hp,hm,ht⟩)
   · exact .inr (.inr ⟨x,V1,es,hp,resR_mute hn k⟩)
theorem apply_ok' {fr:Frame} {cs:List Frame} {s:Sem Next} {w w':World} {n:Next} {es:Array Event} (h:s.runT P w #[]=(.ok n w',es)) (hn:Plain n)
   (hk:∀ d r s k,fr.todo ≠ .call d true r s :: k):stepG.apply P true fr cs none s w=GStep.after (seen P fr.fn (if fr.kind == .early then #[] else es)) (nextG P fr cs w' n):=by
 unfold stepG.apply
 rw [if_pos rfl,h]
 cases n <;> first
   | exact hn.elim
   | rfl
   | (dsimp only [nextG,G]
      generalize seen P fr.fn _=E
      split
      · exact absurd ‹_› (hk _ _ _ _)
      · rfl)
theorem apply_panic' {fr:Frame} {cs:List Frame} {s:Sem Next} {w w':World} {v:Value} {es:Array Event} (h:s.runT P w #[]=(.halt (.panic v) w',es)) :
   stepG.apply P true fr cs none s w=GStep.after (seen P fr.fn (if fr.kind == .early then #[] else es)) (.go (G (fr.raise [⟨v,false,false⟩]) cs) w'):=by
 unfold stepG.apply
 rw [if_pos rfl,h]
 rfl
theorem tl_apply {fr fr':Frame} (hf:FrR X B fr fr') {cs:List Frame} {s s':Sem Next} (hs:SR X P P' (NxR X) B s s') {V W:World} (hw:WR X B V W) (hA:Agrees τ a b lim V) :
   Tl1 τ a b lim V (stepG.apply P true fr cs none s V) (stepG.apply P true fr cs none s (sft τ a b V)):=by
 rcases tl_run hs hw hA with ⟨v,V1,es,B1,d,e1,hm,hA1,e2,hl,hr,_⟩ | ⟨v,V1,es,e1,hm,e2⟩ | ⟨h,V1,es,e1,hn⟩
 · have hp:Plain v:=by cases hr <;> trivial
   rw [apply_ok' e1 hp hf.todo.kind.1]
   refine tl_after hm (r2:=nextG P fr cs (sft τ a b V1) v) ?_ (fun hl => apply_ok' (e2 hl) hp hf.todo.kind.1)
   cases hr <;> exact tl_go
 · rw [apply_panic' e1]
   exact tl_after hm (r2:=.go (G (fr.raise [⟨v,false,false⟩]) cs) (sft τ a b V1)) tl_go (fun hl => apply_panic' (e2 hl))
 · obtain ⟨o,w1,es1,h⟩:=apply_mute (fr:=fr) (cs:=cs) e1 hn
   rw [h]
   exact tl_end
theorem tl_doReturn {fr c:Frame} {cs:List Frame} {v:Value} (m:Bool) (w:World):Tl1 τ a b lim w (doReturn P m fr (c :: cs) none v w) (doReturn P m fr (c :: cs) none v (sft τ a b w)):=by
 unfold doReturn
 dsimp only
 cases fr.kind <;> exact tl_go
variable (H:Whole X P P')
theorem tl_leave {V W:World} (hw:WR X B V W) (hA:Agrees τ a b lim V) {base:List Frame} {fr fr':Frame} {cs cs':List Frame} (hf:FrR X B fr fr') (hc:CsR X B cs cs') (hb:cs=[] → fr.roundOf=none) (m:Bool) (j:Option Code) (hj:∀ c,j=some c → CdR X c c) :
   Tl1 τ a b lim V
     (match fr.roundOf with
       | none => if (match (generalizing:=false) j with | none => true | some .ret => true | _ => false)=true then GStep.go (G { fr with mode:=.returning } (cs ++ base)) V else .ended (.stuck "exit, goto: no such block or label" (fr.pos P)) V
       | some l => match (Instr.endRound l j).runT P V #[] with
         | (r,es) => GStep.after (seen P fr.fn es) (match r with
           | .ok v w => doReturn P m fr (cs ++ base) none v w
           | .halt _ w => .ended (.stuck "range over a function: no such loop" (fr.pos P)) w))
     (match fr.roundOf with
       | none => if (match (generalizing:=false) j with | none => true | some .ret => true | _ => false)=true then GStep.go (G { fr with mode:=.returning } (cs ++ base)) (sft τ a b V) else .ended (.stuck "exit, goto: no such block or label" (fr.pos P)) (sft τ a b V)
       | some l => match (Instr.endRound l j).runT P (sft τ a b V) #[] with
         | (r,es) => GStep.after (seen P fr.fn es) (match r with
           | .ok v w => doReturn P m fr (cs ++ base) none v w
           | .halt _ w => .ended (.stuck "range over a function: no such loop" (fr.pos P)) w)):=by
 have hr:=hf.roundOf
 cases hro:fr.roundOf with
 | none =>
   dsimp only
   generalize (match (generalizing:=false) j with | none => true | some .ret => true | _ => false:Bool)=q
   cases q
   · rw [if_neg (by simp),if_neg (by simp)]; exact tl_end
   · rw [if_pos rfl,if_pos rfl]
     exact tl_go
 | some l =>
   rw [hro] at hr
   cases hro':fr'.roundOf with
   | none => rw [hro'] at hr; cases hr
   | some l' =>
     rw [hro'] at hr
     cases hr
     rename_i hl
     dsimp only
     cases hc with
     | nil => rw [hb rfl] at hro; cases hro
     | cons hcc hc =>
       rcases tl_run (sr_endRound (P:=P) (P':=P) hl j hj) hw hA with ⟨v,V1,es,B1,d,e1,hm,hA1,e2,_⟩ | ⟨v,V1,es,e1,hm,e2⟩ | ⟨h,V1,es,e1,hn⟩
       · rw [e1]
         refine tl_after hm (tl_doReturn m V1) (fun hl => ?_)
         rw [e2 hl]
         rfl
       · rw [e1]
         exact tl_ended
       · rw [e1]
         exact tl_ended
include H
theorem tl_oper {V W:World} (hw:WR X B V W) (hA:Agrees τ a b lim V) {fr fr':Frame} (hf:FrR X B fr fr') {cs:List Frame} {ops:Array Oper} {i:Nat} {rest:List Nat} {k:List Item}
   (ht:fr.todo=.inRegion ops (i :: rest) :: k) (hops:∀ o ∈ ops,X.K o) :
   Tl1 τ a b lim V (stepG.oper P true fr cs none V) (stepG.oper P true fr cs none (sft τ a b V)):=by
 unfold stepG.oper Frame.oper?
 rw [ht]
 dsimp only
 cases ho:ops[i]? with
 | none => exact tl_end
 | some o =>
   dsimp only
   have hok:=H.hK o (hops o (Array.mem_of_getElem? ho))
   have hev:=hf.evR hw.glob H.hG
   cases hro:fr.roundOf with
   | none => exact tl_apply hf (good H.hF H.hM o hok hev fun f => ⟨rfl,rfl⟩) hw hA
   | some l =>
     cases hop:o.op with
     | defer c =>
       have:=hok.1
       rw [hop] at this
       exact this.elim
     | _ => exact tl_apply hf (good H.hF H.hM o hok hev fun f => ⟨rfl,rfl⟩) hw hA
theorem tl_exec {V W:World} (hw:WR X B V W) (hA:Agrees τ a b lim V) {base:List Frame} {fr fr':Frame} {cs cs':List Frame} (hf:FrR X B fr fr') (hc:CsR X B cs cs') (hb:cs=[] → fr.roundOf=none) (m:Bool) :
   Tl1 τ a b lim V (stepG.exec P m true fr (cs ++ base) none V) (stepG.exec P m true fr (cs ++ base) none (sft τ a b V)):=by
 have hP:=H.hF.toPRel
 obtain ⟨fn,tmps,todo,defers,mode,kind,ro⟩:=fr
 obtain ⟨fn',tmps',todo',defers',mode',kind',ro'⟩:=fr'
 have ht:=hf.todo
 dsimp only at ht hb
 cases ht with
 | nil => exact tl_leave hw hA hf hc hb m none fun c e => by cases e
 | cons hi hk =>
     cases hi with
     | inBlock i =>
       unfold stepG.exec
       exact tl_go
     | inScope hcd =>
       unfold stepG.exec
       exact tl_go
     | inLoop hcd =>
       unfold stepG.exec
       exact tl_go
     | inRangeFunc hl =>
       unfold stepG.exec
       exact tl_end
     | beginRound =>
       unfold stepG.exec
       have hr:=hf.roundOf
       dsimp only
       dsimp only at hr
       refine tl_apply hf (P':=P') (s':=(do ro'.elim (stuck "beginRound: no round") Instr.beginRound; pure .skip)) ?_ hw hA
       cases hr with
       | none => exact SR.stuck_bind
       | some hl => exact SR.bind (sr_beginRound hP hl) fun _ _ _ _ _ => SR.pure .skip
     | endRangeFunc hl =>
       rename_i l l'
       unfold stepG.exec
       dsimp only
       rcases tl_run (sr_endLoop hP hl) hw hA with ⟨v,V1,es,B1,d,e1,hm,hA1,e2,_⟩ | ⟨v,V1,es,e1,hm,e2⟩ | ⟨h,V1,es,e1,hn⟩
       · rw [e1]
         refine tl_after (r2:=.go _ (sft τ a b V1)) hm tl_go (fun hl => ?_)
         rw [e2 hl]
       · rw [e1]
         refine tl_after (r2:=.go _ (sft τ a b V1)) hm tl_go (fun hl => ?_)
         rw [e2 hl]
       · rw [e1]
         cases h <;> first | exact hn.elim | exact tl_ended
     | inRegion ops l hops =>
       cases l with
       | nil =>
         unfold stepG.exec
         exact tl_go
       | cons i rest =>
         have ho:=tl_oper H hw hA hf (cs:=cs ++ base) rfl hops
         unfold stepG.exec
         dsimp only
         split
         · exact ho
         · exact tl_go
     | @code c c' hcd =>
       cases c with
       | skip =>
         unfold stepG.exec
         exact tl_go
       | label l =>
         unfold stepG.exec
         exact tl_go
       | ret =>
         unfold stepG.exec
         exact tl_leave hw hA hf hc hb m (some .ret) fun c e => by cases e; rfl
       | seq a b =>
         unfold stepG.exec
         exact tl_go
       | cond o a b =>
         unfold stepG.exec
         dsimp only
         generalize Frame.eval _ o=v
         cases v <;> first
           | exact tl_end
           | exact tl_go
       | block i a =>
         unfold stepG.exec
         exact tl_go
       | loop a =>
         unfold stepG.exec
         exact tl_go
       | scope a =>
         unfold stepG.exec
         exact tl_go
       | exit i =>
         unfold stepG.exec
         dsimp only
         rcases exitTo_lr i hk with ⟨e1,e2⟩ | ⟨q,q',e1,e2,hq⟩
         · rw [e1]
           exact tl_leave hw hA hf hc hb m (some (.exit i)) fun c e => by cases e; rfl
         · rw [e1]
           exact tl_go
       | goto l => exact hcd.elim
       | refuse why =>
         unfold stepG.exec
         exact tl_end
       | region id ops d =>
         unfold stepG.exec
         dsimp only
         cases d with
         | false => exact tl_go
         | true =>
           rcases tl_run (SR.choose (X:=X) (P:=P) (P':=P') (B:=B) (.order fn id)) hw hA with ⟨v,V1,es,B1,d,e1,hm,hA1,e2,_⟩ | ⟨v,V1,es,e1,hm,e2⟩ | ⟨h,V1,es,e1,hn⟩
           · have e3:(Go.choose (.order fn id)).run P V=.ok v V1:=by
               rw [Sem.runT_eq] at e1
               exact congrArg Prod.fst e1
             rw [e3]
             intro fr2 cs2 W1 e0 h
             cases h
             refine ⟨hm,fun hl => ?_⟩
             have e4:(Go.choose (.order fn id)).run P (sft τ a b V)=.ok v (sft τ a b V1):=by
               have:=e2 hl
               rw [Sem.runT_eq] at this
               exact congrArg Prod.fst this
             rw [e4]
             rfl
           · have e3:(Go.choose (.order fn id)).run P V=.halt (.panic v) V1:=by
               rw [Sem.runT_eq] at e1
               exact congrArg Prod.fst e1
             rw [e3]
             exact tl_end
           · have e3:(Go.choose (.order fn id)).run P V=.halt h V1:=by
               rw [Sem.runT_eq] at e1
               exact congrArg Prod.fst e1
             rw [e3]
             exact tl_end
       | rangeFunc f ps aa bb =>
         obtain ⟨aa',bb',rfl,h00,h01,h02⟩:=hcd
         obtain rfl:fn'=fn:=hf.fn
         unfold stepG.exec
         dsimp only
         have hev:=hf.evR hw.glob H.hG f h00
         rcases tl_run (sr_enterLoop (P:=P) (P':=P') fn' hf.tmps ps h01 h02 hf.roundOf) hw hA with ⟨x,V1,es,B1,y,e1,hm,hA1,e2,hle,hab,W1,hw1⟩ | ⟨v,V1,es,e1,hm,e2⟩ | ⟨h,V1,es,e1,hn⟩
         · dsimp only at e1 e2
           rw [e1]
           obtain ⟨l,mk⟩:=x
           obtain ⟨l',mk'⟩:=y
           obtain ⟨hl,hmk⟩:=hab
           dsimp only at hl hmk ⊢
           have hf1:=hf.mono hle
           have hf2:FrR X B1 ⟨fn',tmps,.inRangeFunc l :: _,mk ++ defers,mode,kind,ro⟩ ⟨fn',tmps',.inRangeFunc l' :: _,mk' ++ defers',mode',kind',ro'⟩:=⟨rfl,hf1.tmps,.cons (.inRangeFunc hl) (hk.mono hle),hmk.append hf1.defers,hf1.mode,hf1.kind,hf1.roundOf⟩
           have hev1:=hev.mono hle
           have hone:AR X B1 #[Value.func (.yield l) #[] #[]] #[Value.func (.yield l') #[] #[]]:=AR.one (.func (.yield _ _ hl) rfl (fun i v v' (a:(#[]:Array Value)[i]?=some v) _ => by simp at a) rfl (fun i v v' (a:(#[]:Array Value)[i]?=some v) _ => by simp at a))
           refine tl_after hm (tl_apply hf2 (P':=P') (cs:=cs ++ base) (s':=(do let d ← resolve (Frame.eval ⟨fn',tmps',[],mk' ++ defers',mode',kind',ro'⟩) { callee:=.value f,args:=#[.const (.func (.yield l') #[] #[])],argTypes:=#[] } 0; invoke d.target d.args)) ?_ hw1 hA1) (fun hl => ?_)
           · refine SR.bind (R:=fun B' d d' => DfR X B' d d') ?_ fun B2 l2 d d' hd => sr_invoke H.hF H.hM hd.1 hd.2
             refine sr_ofValue ?_ ?_
             · cases f <;> exact hev1
             · simpa [Frame.eval] using hone
           · rw [e2 hl]
         · dsimp only at e1
           rw [e1]
           exact tl_ended
         · dsimp only at e1
           rw [e1]
           exact tl_ended
theorem tl_callDeferred {V W:World} (hw:WR X B V W) (hA:Agrees τ a b lim V) {cs:List Frame} {fr:Frame} {d d':Deferred} (hd:DfR X B d d') :
   Tl1 τ a b lim V (callDeferred P fr cs none d V) (callDeferred P fr cs none d (sft τ a b V)):=by
 unfold callDeferred
 generalize ((match d.target with | .nil => true | _ => false) && (match fr.mode with | .panicking _ => true | _ => false))=q
 cases q with
 | true => exact tl_end
 | false =>
   rw [if_neg (by simp),if_neg (by simp)]
   rcases tl_run (sr_invoke H.hF H.hM hd.1 hd.2) hw hA with ⟨v,V1,es,B1,d,e1,hm,hA1,e2,hle,hab,_⟩ | ⟨v,V1,es,e1,hm,e2⟩ | ⟨h,V1,es,e1,hn⟩
   · rw [e1]
     cases hab <;> exact tl_after (r2:=.go _ (sft τ a b V1)) hm tl_go (fun hl => by rw [e2 hl])
   · rw [e1]
     exact tl_after (r2:=.go _ (sft τ a b V1)) hm tl_go (fun hl => by rw [e2 hl])
   · rw [e1]
     cases h with
     | unsupported u => exact tl_ended
     | exit c => exact tl_ended
     | stuck m => exact tl_ended
     | _ => exact hn.elim
theorem tl_unwind {V W:World} (hw:WR X B V W) (hA:Agrees τ a b lim V) {fr fr':Frame} {cs base:List Frame} (hf:FrR X B fr fr') (hb:cs=[] → fr.defers ≠ []) (m:Bool) :
   Tl1 τ a b lim V (unwind P m fr (cs ++ base) none V) (unwind P m fr (cs ++ base) none (sft τ a b V)):=by
 have hP:=H.hF.toPRel
 have hd:=hf.defers
 unfold unwind
 cases h1:fr.defers with
 | cons d ds =>
   rw [h1] at hd
   cases h2:fr'.defers with
   | nil => rw [h2] at hd; cases hd
   | cons d' ds' =>
     rw [h2] at hd
     cases hd with
     | cons hq hdd hds =>
     obtain ⟨t,p⟩:=d
     obtain ⟨t',p'⟩:=d'
     have hcd:=tl_callDeferred H hw hA (cs:=cs ++ base) (fr:={ fr with defers:=ds }) hdd
     obtain ⟨ht,hp⟩:=hdd
     dsimp only at ht hp
     cases ht with
     | fn _ _ => exact hcd
     | nil => exact hcd
     | builtin _ _ _ _ _ => exact hcd
     | collected hr =>
       dsimp only
       rcases tl_run (sr_takeDeferred (P:=P) (P':=P') hr) hw hA with ⟨v,V1,es,B1,d,e1,hm,hA1,e2,hle,hab,_⟩ | ⟨v,V1,es,e1,hm,e2⟩ | ⟨h,V1,es,e1,hn⟩
       · rw [e1]
         exact tl_after (r2:=.go _ (sft τ a b V1)) hm tl_go (fun hl => by rw [e2 hl])
       · rw [e1]
         exact tl_ended
       · rw [e1]
         exact tl_ended
 | nil =>
   cases cs with
   | nil => exact absurd h1 (hb rfl)
   | cons c cs =>
   dsimp only [List.cons_append]
   cases h3:fr.mode with
   | run => exact tl_end
   | panicking chain =>
     dsimp only
     split
     · exact tl_end
     · exact tl_go
   | returning =>
     dsimp only
     cases h4:P.funcs[fr.fn]? with
     | none => exact tl_doReturn m V
     | some fn =>
       dsimp only
       have hres:∃ fn',P'.funcs[fr.fn]?=some fn' ∧ fn'.results=fn.results:=by
         rcases H.hF.funcs fr.fn with ⟨e1,e2⟩ | ⟨f1,f2,e1,e2,hn,hr,_⟩
         · rw [h4] at e1; cases e1
         · rw [h4] at e1; cases e1; exact ⟨f2,e2,hr⟩
       obtain ⟨fn',h5,hres⟩:=hres
       rcases tl_run (sr_results hP hres hf.tmps) hw hA with ⟨v,V1,es,B1,d,e1,hm,hA1,e2,hle,hab,_⟩ | ⟨v,V1,es,e1,hm,e2⟩ | ⟨h,V1,es,e1,hn⟩
       · rw [e1]
         exact tl_after hm (tl_doReturn m V1) (fun hl => by rw [e2 hl])
       · rw [e1]
         exact tl_ended
       · rw [e1]
         cases h <;> exact tl_ended
theorem step_tl {V W:World} (hw:WR X B V W) (hA:Agrees τ a b lim V) {base:List Frame} {fr fr':Frame} {cs cs':List Frame} (hf:FrR X B fr fr') (hc:CsR X B cs cs') (hb:cs=[] → fr.roundOf=none ∧ (fr.mode=.run ∨ fr.defers ≠ [])) (m:Bool) :
   Tl1 τ a b lim V (stepG P m (G fr (cs ++ base)) V) (stepG P m (G fr (cs ++ base)) (sft τ a b V)):=by
 by_cases hr:fr.mode=.run
 · rw [stepG_run hr,stepG_run hr]
   exact tl_exec H hw hA hf hc (fun e => (hb e).1) m
 · rw [stepG_unwind hr,stepG_unwind hr]
   exact tl_unwind H hw hA hf (fun e => (hb e).2.resolve_left hr) m
end
end Go.Proofs.YthhfljldbfgpcaaGreatDoor.Lr
end
