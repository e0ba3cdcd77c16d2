/- Plain: lists of paths that together have all of a tile. -/
import Derived.Test.YtcdkhacccbdmdaaPlanP
namespace Go.Proofs.Ytcdkhacccbdmdaa

/-- a path's number -/
def numL : List UInt8 → Nat → Nat
  | [], n => n
  | c :: r, n => numL r (4 * n + (c.toNat - 48))
def widL (n : Nat) : Nat := 4 ^ (10 - n)
theorem widL_pos (n : Nat) : 0 < widL n := Nat.pow_pos (by omega)
abbrev Path := List UInt8
def okP (s : Path) : Prop := s.length ≤ 10 ∧ ∀ c ∈ s, 48 ≤ c.toNat ∧ c.toNat ≤ 51
theorem numL_append : ∀ (s t : Path) (n : Nat), numL (s ++ t) n = numL t (numL s n)
  | [], _, _ => rfl
  | _ :: s, t, _ => numL_append s t _
theorem numL_start : ∀ (s : Path) (n : Nat), numL s n = n * 4 ^ s.length + numL s 0
  | [], _ => by simp [numL]
  | c :: s, n => by
    unfold numL
    rw [numL_start s (4 * n + _), numL_start s (4 * 0 + _), List.length_cons, Nat.pow_succ]
    generalize 4 ^ s.length = q
    generalize c.toNat - 48 = d
    rw [Nat.add_mul, Nat.add_mul]
    have : n * (q * 4) = 4 * n * q := by rw [Nat.mul_comm q 4, ← Nat.mul_assoc, Nat.mul_comm n 4]
    omega
theorem numL_lt : ∀ (s : Path), (∀ c ∈ s, 48 ≤ c.toNat ∧ c.toNat ≤ 51) → numL s 0 < 4 ^ s.length
  | [], _ => by simp [numL]
  | c :: s, h => by
    have h1 := numL_lt s (fun c hc => h c (by simp [hc]))
    have h2 := h c (by simp)
    unfold numL
    rw [numL_start, List.length_cons, Nat.pow_succ]
    generalize 4 ^ s.length = q at *
    have : (4 * 0 + (c.toNat - 48)) * q ≤ 3 * q := Nat.mul_le_mul_right q (by omega)
    omega
theorem numL_inj : ∀ (s t : Path), s.length = t.length → (∀ c ∈ s, 48 ≤ c.toNat ∧ c.toNat ≤ 51) → (∀ c ∈ t, 48 ≤ c.toNat ∧ c.toNat ≤ 51) → numL s 0 = numL t 0 → s = t
  | [], [], _, _, _, _ => rfl
  | [], _ :: _, h, _, _, _ => by simp at h
  | _ :: _, [], h, _, _, _ => by simp at h
  | c :: s, d :: t, h, hs, ht, he => by
    have hl : s.length = t.length := by simpa using h
    have h1 := numL_lt s (fun c hc => hs c (by simp [hc]))
    have h2 := numL_lt t (fun c hc => ht c (by simp [hc]))
    have h3 := hs c (by simp)
    have h4 := ht d (by simp)
    unfold numL at he
    rw [numL_start s, numL_start t, ← hl] at he
    rw [← hl] at h2
    have hq : 0 < 4 ^ s.length := Nat.pow_pos (by omega)
    generalize 4 ^ s.length = q at *
    have hcd : 4 * 0 + (c.toNat - 48) = 4 * 0 + (d.toNat - 48) := by
      have e1 : ((4 * 0 + (c.toNat - 48)) * q + numL s 0) / q = 4 * 0 + (c.toNat - 48) := by rw [Nat.mul_comm, Nat.mul_add_div hq, Nat.div_eq_of_lt h1]; rfl
      have e2 : ((4 * 0 + (d.toNat - 48)) * q + numL t 0) / q = 4 * 0 + (d.toNat - 48) := by rw [Nat.mul_comm, Nat.mul_add_div hq, Nat.div_eq_of_lt h2]; rfl
      rw [← e1, ← e2, he]
    have hc : c = d := UInt8.toNat_inj.1 (by omega)
    subst hc
    rw [numL_inj s t hl (fun c hc => hs c (by simp [hc])) (fun c hc => ht c (by simp [hc])) (by omega)]
/-- where a path begins -/
def atP (s : Path) : Nat := numL s 0 * widL s.length
def sumTo : List Path → Nat → Option Nat
  | [], x => some x
  | s :: r, x => if atP s = x then sumTo r (x + widL s.length) else none
/-- to a target -/
def sp (tgt : Nat) : List Path → Nat → Option (List Path)
  | [], x => if x = tgt then some [] else none
  | s :: r, x => if x = tgt then some (s :: r) else if atP s = x then sp tgt r (x + widL s.length) else none
theorem sp_at (tgt : Nat) (ss : List Path) : sp tgt ss tgt = some ss := by
  cases ss <;> simp [sp]
theorem sp_over (tgt : Nat) : ∀ (ss : List Path) (x : Nat), tgt < x → sp tgt ss x = none
  | [], x, h => by simp [sp]; omega
  | s :: r, x, h => by
    unfold sp
    rw [if_neg (by omega), sp_over tgt r _ (by omega)]
    simp
theorem sumTo_ge : ∀ (ss : List Path) (x y : Nat), sumTo ss x = some y → x ≤ y ∧ (ss ≠ [] → x < y)
  | [], x, y, h => by simp [sumTo] at h; simp [h]
  | s :: r, x, y, h => by
    unfold sumTo at h
    split at h
    · have := (sumTo_ge r _ y h).1
      have := widL_pos s.length
      exact ⟨by omega, fun _ => by omega⟩
    · cases h
theorem sp_sum (tgt : Nat) : ∀ (ss : List Path) (x : Nat), sp tgt ss x = some [] ↔ sumTo ss x = some tgt
  | [], x => by simp [sp, sumTo]
  | s :: r, x => by
    unfold sp
    by_cases h : x = tgt
    · rw [if_pos h]
      constructor
      · intro h; simp at h
      · intro h2; exact absurd ((sumTo_ge _ _ _ h2).2 (by simp)) (by omega)
    · rw [if_neg h]
      unfold sumTo
      by_cases h3 : atP s = x
      · rw [if_pos h3, if_pos h3]; exact sp_sum tgt r _
      · rw [if_neg h3, if_neg h3]; simp
theorem widL_dvd {a b : Nat} (h : a ≤ b) : widL b ∣ widL a := Nat.pow_dvd_pow 4 (by omega)
theorem widL_succ {n : Nat} (h : n < 10) : widL n = 4 * widL (n + 1) := by
  unfold widL
  rw [show 10 - n = (10 - (n + 1)) + 1 by omega, Nat.pow_succ, Nat.mul_comm]
theorem dvd_step {d x b : Nat} (hx : d ∣ x) (hb : d ∣ b) (h : x < b) : x + d ≤ b := by
  obtain ⟨m, rfl⟩ := hx
  obtain ⟨n, rfl⟩ := hb
  have : m < n := Nat.lt_of_mul_lt_mul_left h
  have : d * (m + 1) ≤ d * n := Nat.mul_le_mul_left d this
  rw [Nat.mul_succ] at this
  exact this
/-- a boundary is not passed over -/
theorem sp_comp (n tgt b : Nat) (ht : widL n ∣ tgt) (hb : widL (n + 1) ∣ b) (hbt : b ≤ tgt) :
    ∀ (ss : List Path) (x : Nat), x ≤ b → tgt ≤ x + widL n → (x < b → ¬ widL n ∣ x ∨ ∀ s r, ss = s :: r → n + 1 ≤ s.length) → sp tgt ss x = (sp b ss x).bind fun r => sp tgt r b := by
  intro ss
  induction ss with
  | nil =>
    intro x hx _ _
    by_cases h : x = b
    · subst h; simp [sp]
    · have : x ≠ tgt := by omega
      simp [sp, h, this]
  | cons s r ih =>
    intro x hx hx2 hc
    by_cases h : x = b
    · subst h; rw [sp_at]; rfl
    · have hxt : x ≠ tgt := by omega
      have hlt : x < b := by omega
      show (if x = tgt then some (s :: r) else if atP s = x then sp tgt r (x + widL s.length) else none) = _
      rw [if_neg hxt]
      show _ = (if x = b then some (s :: r) else if atP s = x then sp b r (x + widL s.length) else none).bind _
      rw [if_neg h]
      by_cases hs : atP s = x
      · rw [if_pos hs, if_pos hs]
        have hdx : widL s.length ∣ x := ⟨numL s 0, by rw [← hs, atP, Nat.mul_comm]⟩
        have hlen : n + 1 ≤ s.length := by
          rcases hc hlt with h1 | h1
          · rcases Nat.lt_or_ge n s.length with h2 | h2
            · exact h2
            · exact absurd (Nat.dvd_trans (widL_dvd h2) hdx) h1
          · exact h1 s r rfl
        have hstep : x + widL s.length ≤ b := dvd_step hdx (Nat.dvd_trans (widL_dvd hlen) hb) hlt
        have hp := widL_pos s.length
        refine ih _ hstep (by omega) (fun hlt2 => .inl fun hd => ?_)
        have := dvd_step hd ht (by omega)
        omega
      · rw [if_neg hs, if_neg hs]; rfl
def chain (f : List Path → Path → Option (List Path)) (p : Path) : List UInt8 → List Path → Option (List Path)
  | [], cs => some cs
  | d :: ds, cs => (f cs (p ++ [d])).bind (chain f p ds)
/-- what is behind the paths that have all of a tile -/
def wholeM : Nat → List Path → Path → Option (List Path)
  | _, [], _ => none
  | 0, s :: r, p => if p <+: s then if s = p then some r else none else none
  | m + 1, s :: r, p => if p <+: s then if s = p then some r else chain (wholeM m) p [48, 49, 50, 51] (s :: r) else none
theorem sp_rest {tgt : Nat} : ∀ {ss : List Path} {x : Nat} {r : List Path}, sp tgt ss x = some r → ∀ s ∈ r, s ∈ ss
  | [], x, r, h => by unfold sp at h; split at h <;> simp at h; subst h; simp
  | s :: q, x, r, h => by
    unfold sp at h
    split at h
    · simp at h; subst h; exact fun _ h => h
    · split at h
      · intro t ht; exact List.mem_cons_of_mem _ (sp_rest h t ht)
      · cases h
theorem atP_snoc (p : Path) (d : UInt8) : atP (p ++ [d]) = (4 * numL p 0 + (d.toNat - 48)) * widL (p.length + 1) := by
  unfold atP
  rw [numL_append]
  simp [numL]
theorem wholeM_sp : ∀ (m : Nat) (ss : List Path) (p : Path), (∀ s ∈ ss, okP s) → okP p → 10 ≤ p.length + m → wholeM m ss p = sp (atP p + widL p.length) ss (atP p)
  | m, [], p, _, _, _ => by
    have := widL_pos p.length
    have h : ¬ atP p = atP p + widL p.length := by omega
    cases m <;> simp [wholeM, sp] <;> omega
  | m, s :: r, p, hs, hp, hm => by
    have hw := widL_pos p.length
    have hso := hs s (by simp)
    by_cases hpre : p <+: s
    · by_cases heq : s = p
      · have : wholeM m (s :: r) p = some r := by cases m <;> simp [wholeM, heq]
        rw [this, heq]
        unfold sp
        rw [if_neg (by omega), if_pos rfl, sp_at]
      · have hlen : p.length < s.length := by
          have h1 := hpre.length_le
          rcases Nat.lt_or_eq_of_le h1 with h2 | h2
          · exact h2
          · exact absurd (hpre.eq_of_length h2).symm heq
        have hp10 : p.length < 10 := by have := hso.1; omega
        cases m with
        | zero => omega
        | succ m =>
          have ih : ∀ (qs : List Path) (d : UInt8), 48 ≤ d.toNat → d.toNat ≤ 51 → (∀ s ∈ qs, okP s) → wholeM m qs (p ++ [d]) = sp ((4 * numL p 0 + (d.toNat - 48) + 1) * widL (p.length + 1)) qs ((4 * numL p 0 + (d.toNat - 48)) * widL (p.length + 1)) := by
            intro qs d h1 h2 hq
            rw [wholeM_sp m qs (p ++ [d]) hq ⟨by simp; omega, fun c hc => by
              rcases List.mem_append.1 hc with h | h
              · exact hp.2 c h
              · simp at h; subst h; exact ⟨h1, h2⟩⟩ (by simp; omega)]
            rw [atP_snoc p d, Nat.succ_mul (4 * numL p 0 + (d.toNat - 48)), show (p ++ [d]).length = p.length + 1 by simp]
          show (if p <+: s then if s = p then some r else chain (wholeM m) p [48, 49, 50, 51] (s :: r) else none) = _
          rw [if_pos hpre, if_neg heq]
          have hws := widL_succ hp10
          have ea : atP p = (4 * numL p 0) * widL (p.length + 1) := by
            unfold atP; rw [hws, ← Nat.mul_assoc, Nat.mul_comm (numL p 0) 4]
          have eb : atP p + widL p.length = (4 * numL p 0 + 4) * widL (p.length + 1) := by rw [ea, hws, Nat.add_mul]
          have hdt : widL p.length ∣ (4 * numL p 0 + 4) * widL (p.length + 1) := ⟨numL p 0 + 1, by rw [hws, ← Nat.mul_succ, Nat.mul_right_comm]⟩
          have comp : ∀ (qs : List Path) (i : Nat), i < 4 → (∀ s r, qs = s :: r → i = 0 → p.length + 1 ≤ s.length) → (i = 0 → qs ≠ []) →
              sp ((4 * numL p 0 + 4) * widL (p.length + 1)) qs ((4 * numL p 0 + i) * widL (p.length + 1)) = (sp ((4 * numL p 0 + (i + 1)) * widL (p.length + 1)) qs ((4 * numL p 0 + i) * widL (p.length + 1))).bind fun r => sp ((4 * numL p 0 + 4) * widL (p.length + 1)) r ((4 * numL p 0 + (i + 1)) * widL (p.length + 1)) := by
            intro qs i hi hq _
            refine sp_comp p.length _ _ hdt (Nat.dvd_mul_left _ _) (Nat.mul_le_mul_right _ (by omega)) qs _ (Nat.mul_le_mul_right _ (by omega)) ?_ (fun _ => ?_)
            · rw [hws, ← Nat.add_mul]; exact Nat.mul_le_mul_right _ (by omega)
            · by_cases h0 : i = 0
              · exact .inr fun s r e => hq s r e h0
              · left
                rintro ⟨k, hk⟩
                rw [hws, Nat.mul_right_comm] at hk
                have := Nat.eq_of_mul_eq_mul_right (widL_pos (p.length + 1)) hk
                omega
          rw [eb, ea]
          have step0 := comp (s :: r) 0 (by omega) (fun s' r' e _ => by simp at e; rw [← e.1]; exact hlen) (fun _ => by simp)
          simp only [Nat.add_zero] at step0
          rw [step0]
          unfold chain
          rw [ih (s :: r) 48 (by decide) (by decide) hs]
          show (sp ((4 * numL p 0 + 0 + 1) * _) (s :: r) ((4 * numL p 0 + 0) * _)).bind _ = _
          simp only [Nat.add_zero, Nat.zero_add]
          cases h1 : sp ((4 * numL p 0 + 1) * widL (p.length + 1)) (s :: r) (4 * numL p 0 * widL (p.length + 1)) with
          | none => rfl
          | some r1 =>
            have k1 : ∀ t ∈ r1, okP t := fun t ht => hs t (sp_rest h1 t ht)
            simp only [Option.bind_some]
            rw [comp r1 1 (by omega) (fun _ _ _ h => absurd h (by omega)) (fun h => absurd h (by omega))]
            unfold chain
            rw [ih r1 49 (by decide) (by decide) k1]
            show (sp ((4 * numL p 0 + 1 + 1) * _) r1 ((4 * numL p 0 + 1) * _)).bind _ = _
            cases h2 : sp ((4 * numL p 0 + 1 + 1) * widL (p.length + 1)) r1 ((4 * numL p 0 + 1) * widL (p.length + 1)) with
            | none => rfl
            | some r2 =>
              have k2 : ∀ t ∈ r2, okP t := fun t ht => k1 t (sp_rest h2 t ht)
              simp only [Option.bind_some]
              show _ = sp _ r2 ((4 * numL p 0 + 2) * _)
              rw [comp r2 2 (by omega) (fun _ _ _ h => absurd h (by omega)) (fun h => absurd h (by omega))]
              unfold chain
              rw [ih r2 50 (by decide) (by decide) k2]
              show (sp ((4 * numL p 0 + 2 + 1) * _) r2 ((4 * numL p 0 + 2) * _)).bind _ = _
              cases h3 : sp ((4 * numL p 0 + 2 + 1) * widL (p.length + 1)) r2 ((4 * numL p 0 + 2) * widL (p.length + 1)) with
              | none => rfl
              | some r3 =>
                have k3 : ∀ t ∈ r3, okP t := fun t ht => k2 t (sp_rest h3 t ht)
                simp only [Option.bind_some]
                unfold chain
                rw [ih r3 51 (by decide) (by decide) k3]
                show (sp ((4 * numL p 0 + 3 + 1) * _) r3 ((4 * numL p 0 + 3) * _)).bind _ = sp _ r3 ((4 * numL p 0 + 3) * _)
                have hc : chain (wholeM m) p [] = some := by funext x; rfl
                rw [hc]
                simp
    · have : wholeM m (s :: r) p = none := by cases m <;> simp [wholeM, hpre]
      rw [this]
      unfold sp
      rw [if_neg (by omega)]
      by_cases hs1 : atP s = atP p
      · rw [if_pos hs1]
        symm
        apply sp_over
        rcases Nat.lt_or_ge s.length p.length with h | h
        · have hp10 := hp.1
          have h1 := widL_succ (n := s.length) (by omega)
          have h2 : widL p.length ≤ widL (s.length + 1) := Nat.le_of_dvd (widL_pos _) (widL_dvd h)
          have := widL_pos (s.length + 1)
          omega
        · exfalso
          apply hpre
          have e : s = s.take p.length ++ s.drop p.length := (List.take_append_drop _ _).symm
          have hl : (s.take p.length).length = p.length := by simp; omega
          have hd : (s.drop p.length).length = s.length - p.length := by simp
          have hlt := numL_lt (s.drop p.length) (fun c hc => hso.2 c (List.mem_of_mem_drop hc))
          have hn : numL s 0 = numL (s.take p.length) 0 * 4 ^ (s.length - p.length) + numL (s.drop p.length) 0 := by
            conv => lhs; rw [e, numL_append, numL_start, hd]
          have hww : widL p.length = 4 ^ (s.length - p.length) * widL s.length := by
            unfold widL
            rw [← Nat.pow_add]
            congr 1
            have := hso.1
            omega
          unfold atP at hs1
          rw [hn, hww] at hs1
          rw [hd] at hlt
          have hws := widL_pos s.length
          rw [← Nat.mul_assoc] at hs1
          have h5 := Nat.eq_of_mul_eq_mul_right hws hs1
          have hq : 0 < 4 ^ (s.length - p.length) := Nat.pow_pos (by omega)
          generalize 4 ^ (s.length - p.length) = q at *
          have h6 : numL (s.take p.length) 0 = numL p 0 := by
            have e1 : (numL (s.take p.length) 0 * q + numL (s.drop p.length) 0) / q = numL (s.take p.length) 0 := by rw [Nat.mul_comm, Nat.mul_add_div hq, Nat.div_eq_of_lt hlt]; rfl
            rw [h5, Nat.mul_div_cancel _ hq] at e1
            exact e1.symm
          have h7 := numL_inj _ p hl (fun c hc => hso.2 c (List.mem_of_mem_take hc)) hp.2 h6
          rw [← h7]
          exact List.take_prefix _ _
      · rw [if_neg hs1]
/-- THE TWO TELL THE SAME -/
theorem whole_same (ss : List Path) (h : ∀ s ∈ ss, okP s) : wholeM 10 ss [] = some [] ↔ sumTo ss 0 = some 1048576 := by
  rw [wholeM_sp 10 ss [] h ⟨by simp, by simp⟩ (by simp)]
  have e : atP [] = 0 := rfl
  have e2 : widL ([] : Path).length = 1048576 := rfl
  rw [e, e2, Nat.zero_add]
  exact sp_sum _ _ _
end Go.Proofs.Ytcdkhacccbdmdaa
