/- Merged texts: PlanW, WholeW, PmkG. -/
import Derived.Test.YtalmhbcmagjheaaJ3
import Derived.Test.YtalmhbcmagjheaaJ21
import Derived.Test.YtalmhbcmagjheaaRows
import Derived.Deep.Cut
import Derived.Lib.Strings
section
/- Walks: the depth of plans. -/
namespace Go.Proofs.Ytalmhbcmagjheaa
open Go.RowKit

theorem digit_of {s : ByteArray} {j : Nat} (h : j < s.size) : digitOK (s.data.toList.getD j 0) = (decide (48 ≤ s[j].toNat) && decide (s[j].toNat ≤ 51)) := by
  rw [← byte_eq s j h]; rfl
set_option maxHeartbeats 400000 in
theorem pathWell_any (s : ByteArray) (hs : s.size ≤ 1048576) (most : Nat) (mi : Int) (hm : mi = most) (w : World) : Calls Try.prog 22 #[.string s, .int .i64 mi] w fun e w' => e = .returned (.bool (pathOK s most)) ∧ w = w' := by
  subst hm
  by_cases hlong : most < s.size
  · rw [pathOK_long hlong]
    go_enter Try.func22, Try.ntmps22
    go_wp2
    go_ret
    exact ⟨rfl, rfl⟩
  · have hle : s.size ≤ most := by omega
    go_enter Try.func22, Try.ntmps22
    go_wp2
    go_loop [5, 12] (fun _ i => ∃ k : Nat, k ≤ s.size ∧ i = .int .i64 k ∧ Hid (∀ j, j < k → digitOK (s.data.toList.getD j 0) = true)) (fun _ i => (s.size - intOf i).toNat)
    case atStart => exact ⟨0, by omega, rfl, fun j hj => by omega⟩
    case round =>
      obtain ⟨k, hk, rfl, HD⟩ := hrel
      by_cases hlt : k < s.size
      · have hdg := digit_of hlt
        by_cases h1 : s[k].toNat < 48
        · have HB : Hid (pathOK s most = false) := pathOK_bad hlt (by rw [hdg]; simp; omega)
          clear hdg
          go_wp2
          go_ret
          rw [HB.out]
          exact ⟨rfl, rfl⟩
        · by_cases h2 : 51 < s[k].toNat
          · have HB : Hid (pathOK s most = false) := pathOK_bad hlt (by rw [hdg]; simp; omega)
            clear hdg
            go_wp2
            go_ret
            rw [HB.out]
            exact ⟨rfl, rfl⟩
          · have HN : Hid (∀ j, j < k + 1 → digitOK (s.data.toList.getD j 0) = true) := by
              intro j hj
              by_cases e : j = k
              · rw [e, hdg]; simp; omega
              · exact HD.out j (by omega)
            clear hdg
            go_wp2
            go_round
            case rel => exact ⟨k + 1, by omega, by go_num, HN⟩
            case measure => simp [intOf]; omega
      · have HP : Hid (pathOK s most = true) := pathOK_of hle (fun j hj => HD.out j (by omega))
        go_wp2
        go_ret
        rw [HP.out]
        exact ⟨rfl, rfl⟩
set_option maxHeartbeats 1000000 in
theorem implPlanDepth_any (a a2 : Option Addr) (c m c2 : Nat) (p q r : Int) (ss : List ByteArray) (hn : ss.length ≤ 1048576) (hl : ∀ s ∈ ss, s.size ≤ 1048576) (w : World) (hs : Sl w a (ss.map Value.string)) :
    Calls Try.prog 8 #[.agg #[.slice a ss.length c, .slice a2 m c2, .int .i64 p, .int .i64 q, .int .i64 r]] w fun e w' => e = .returned (.tuple #[.int .i64 ((planDepth ss m).getD 0 : Nat), .bool (planDepth ss m).isSome]) ∧ Below w.heap.size w w' := by
  have hs' := hs.alloc (.cells #[.slice a ss.length c, .slice a2 m c2, .int .i64 p, .int .i64 q, .int .i64 r] 26)
  obtain ⟨n, hnn⟩ : ∃ n, ss.length = n := ⟨_, rfl⟩
  rw [hnn] at hn hs' ⊢
  have HN := Lib.hid hnn
  have HS := Lib.hid hs'
  have HL := Lib.hid hl
  clear hnn hs hs' hl
  by_cases h0 : n = 0
  · have HP : Hid (planDepth ss m = none) := by show _ = _; unfold planDepth; rw [if_pos (HN.out.trans h0)]
    have ht : ((n : Int) == 0) = true := by simp; omega
    clear h0
    go_enter Try.func8, Try.ntmps8
    go_wp2
    go_ret2
    rw [HP.out]
    exact ⟨rfl, (Below.refl _ _).alloc (Nat.le_refl _) _⟩
  · have ht : ((n : Int) == 0) = false := by simp; omega
    by_cases hmn : m = n
    · have HP : Hid (planDepth ss m = depthTo ss 0) := by show _ = _; unfold planDepth; rw [if_neg (by rw [HN.out]; exact h0), if_pos (by rw [HN.out]; exact hmn)]
      have ht2 : ((m : Int) != n) = false := by simp; omega
      clear hmn
      go_enter Try.func8, Try.ntmps8
      go_wp2
      go_loop [4, 6, 23] (fun d _ i => ∃ k x : Nat, k ≤ n ∧ i = .int .i64 k ∧ d = .int .i64 x ∧ x ≤ 1048576 ∧ Hid (depthTo (ss.drop k) x = depthTo ss 0)) (fun _ _ i => (n - intOf i).toNat)
      case atStart => exact ⟨0, 0, by omega, rfl, rfl, by omega, rfl⟩
      case round =>
        obtain ⟨k, x, hk, rfl, rfl, hx1, HE⟩ := hrel
        by_cases hlt : k < n
        · have hx : (ss.map Value.string)[k]? = some (Value.string (ss[k]'(by rw [HN.out]; exact hlt))) := by
            rw [List.getElem?_map, List.getElem?_eq_getElem (by rw [HN.out]; exact hlt)]; rfl
          obtain ⟨b, off, rfl, hc⟩ := HS.out.at hx
          have hsz := HL.out _ (List.getElem_mem (by rw [HN.out]; exact hlt) : ss[k]'(by rw [HN.out]; exact hlt) ∈ ss)
          have HD : Hid (ss.drop k = ss[k]'(by rw [HN.out]; exact hlt) :: ss.drop (k + 1)) := List.drop_eq_getElem_cons _
          clear hx
          generalize ss[k]'(by rw [HN.out]; exact hlt) = s at *
          cases hok : pathOK s 10 with
          | false =>
            have HR : Hid (depthTo ss 0 = none) := by show _ = _; rw [← HE.out, HD.out, depthTo_no hok]
            go_wp2_with (go_at_call 22; refine (pathWell_any s hsz 10 10 rfl _).mono ?_; rintro e w' ⟨rfl, rfl⟩)
            go_ret2
            rw [HP.out, HR.out]
            exact ⟨rfl, (Below.refl _ _).alloc (Nat.le_refl _) _⟩
          | true =>
            have HR : Hid (depthTo (ss.drop (k + 1)) (max x s.size) = depthTo ss 0) := by show _ = _; rw [← HE.out, HD.out, depthTo_ok hok]
            have hmx : max x s.size ≤ 1048576 := by omega
            go_wp2_with (go_at_call 22; refine (pathWell_any s hsz 10 10 rfl _).mono ?_; rintro e w' ⟨rfl, rfl⟩)
            go_round
            case rel => exact ⟨k + 1, max x s.size, by omega, by go_num, by go_num, hmx, HR⟩
            case measure => simp [intOf]; omega
        · have HX : Hid (depthTo ss 0 = some x) := by
            show _ = _
            rw [← HE.out, show k = ss.length by rw [HN.out]; omega, List.drop_length]; rfl
          go_wp2
          go_ret2
          rw [HP.out, HX.out]
          exact ⟨rfl, (Below.refl _ _).alloc (Nat.le_refl _) _⟩
    · have HP : Hid (planDepth ss m = none) := by show _ = _; unfold planDepth; rw [if_neg (by rw [HN.out]; exact h0), if_neg (by rw [HN.out]; exact hmn)]
      have ht2 : ((m : Int) != n) = true := by simp; omega
      clear hmn
      go_enter Try.func8, Try.ntmps8
      go_wp2
      go_ret2
      rw [HP.out]
      exact ⟨rfl, (Below.refl _ _).alloc (Nat.le_refl _) _⟩
set_option maxHeartbeats 1000000 in
theorem specPlanDepth_any (a a2 : Option Addr) (c m c2 : Nat) (p q r : Int) (ss : List ByteArray) (hn : ss.length ≤ 1048576) (hl : ∀ s ∈ ss, s.size ≤ 1048576) (w : World) (hs : Sl w a (ss.map Value.string)) :
    Calls Try.prog 9 #[.agg #[.slice a ss.length c, .slice a2 m c2, .int .i64 p, .int .i64 q, .int .i64 r]] w fun e w' => e = .returned (.tuple #[.int .i64 ((planDepth ss m).getD 0 : Nat), .bool (planDepth ss m).isSome]) ∧ Below w.heap.size w w' := by
  have hs' := hs.alloc (.cells #[.slice a ss.length c, .slice a2 m c2, .int .i64 p, .int .i64 q, .int .i64 r] 26)
  obtain ⟨n, hnn⟩ : ∃ n, ss.length = n := ⟨_, rfl⟩
  rw [hnn] at hn hs' ⊢
  have HN := Lib.hid hnn
  have HS := Lib.hid hs'
  have HL := Lib.hid hl
  clear hnn hs hs' hl
  by_cases h0 : n = 0
  · have HP : Hid (planDepth ss m = none) := by show _ = _; unfold planDepth; rw [if_pos (HN.out.trans h0)]
    have ht : ((n : Int) == 0) = true := by simp; omega
    clear h0
    go_enter Try.func9, Try.ntmps9
    go_wp2
    go_ret2
    rw [HP.out]
    exact ⟨rfl, (Below.refl _ _).alloc (Nat.le_refl _) _⟩
  · have ht : ((n : Int) == 0) = false := by simp; omega
    by_cases hmn : m = n
    · have HP : Hid (planDepth ss m = depthTo ss 0) := by show _ = _; unfold planDepth; rw [if_neg (by rw [HN.out]; exact h0), if_pos (by rw [HN.out]; exact hmn)]
      have ht2 : ((m : Int) != n) = false := by simp; omega
      clear hmn
      go_enter Try.func9, Try.ntmps9
      go_wp2
      go_loop [4, 5] (fun d i => ∃ k x : Nat, k ≤ n ∧ i = .int .i64 k ∧ d = .int .i64 x ∧ x ≤ 1048576 ∧ Hid (depthTo (ss.drop k) x = depthTo ss 0)) (fun _ i => (n - intOf i).toNat)
      case atStart => exact ⟨0, 0, by omega, rfl, rfl, by omega, rfl⟩
      case round =>
        obtain ⟨k, x, hk, rfl, rfl, hx1, HE⟩ := hrel
        by_cases hlt : k < n
        · have hx : (ss.map Value.string)[k]? = some (Value.string (ss[k]'(by rw [HN.out]; exact hlt))) := by
            rw [List.getElem?_map, List.getElem?_eq_getElem (by rw [HN.out]; exact hlt)]; rfl
          obtain ⟨b, off, rfl, hc⟩ := HS.out.at hx
          have hsz := HL.out _ (List.getElem_mem (by rw [HN.out]; exact hlt) : ss[k]'(by rw [HN.out]; exact hlt) ∈ ss)
          have HD : Hid (ss.drop k = ss[k]'(by rw [HN.out]; exact hlt) :: ss.drop (k + 1)) := List.drop_eq_getElem_cons _
          clear hx
          generalize ss[k]'(by rw [HN.out]; exact hlt) = s at *
          by_cases hlong : 10 < s.size
          · have HR : Hid (depthTo ss 0 = none) := by show _ = _; rw [← HE.out, HD.out, depthTo_no (pathOK_long hlong)]
            go_wp2
            go_ret2
            rw [HP.out, HR.out]
            exact ⟨rfl, (Below.refl _ _).alloc (Nat.le_refl _) _⟩
          · go_wp2
            go_loop [7] (fun i => ∃ j : Nat, j ≤ s.size ∧ i = .int .i64 j ∧ Hid (∀ i, i < j → digitOK (s.data.toList.getD i 0) = true)) (fun i => (s.size - intOf i).toNat)
            case atStart => exact ⟨0, by omega, rfl, fun j hj => by omega⟩
            case round =>
              obtain ⟨j, hj, rfl, HG⟩ := hrel
              by_cases hjlt : j < s.size
              · have hdg := digit_of hjlt
                by_cases h1 : s[j].toNat < 48
                · have HR : Hid (depthTo ss 0 = none) := by show _ = _; rw [← HE.out, HD.out, depthTo_no (pathOK_bad hjlt (by rw [hdg]; simp; omega))]
                  clear hdg
                  go_wp2
                  go_ret2
                  rw [HP.out, HR.out]
                  exact ⟨rfl, (Below.refl _ _).alloc (Nat.le_refl _) _⟩
                · by_cases h2 : 51 < s[j].toNat
                  · have HR : Hid (depthTo ss 0 = none) := by show _ = _; rw [← HE.out, HD.out, depthTo_no (pathOK_bad hjlt (by rw [hdg]; simp; omega))]
                    clear hdg
                    go_wp2
                    go_ret2
                    rw [HP.out, HR.out]
                    exact ⟨rfl, (Below.refl _ _).alloc (Nat.le_refl _) _⟩
                  · have HM : Hid (∀ i, i < j + 1 → digitOK (s.data.toList.getD i 0) = true) := by
                      intro i hi
                      by_cases e : i = j
                      · rw [e, hdg]; simp; omega
                      · exact HG.out i (by omega)
                    clear hdg
                    go_wp2
                    go_round
                    case rel => exact ⟨j + 1, by omega, by go_num, HM⟩
                    case measure => simp [intOf]; omega
              · have HR : Hid (depthTo (ss.drop (k + 1)) (max x s.size) = depthTo ss 0) := by
                  show _ = _
                  rw [← HE.out, HD.out, depthTo_ok (pathOK_of (by omega) (fun i hi => HG.out i (by omega)))]
                have hmx : max x s.size ≤ 1048576 := by omega
                go_wp2
                go_round
                case rel => exact ⟨k + 1, max x s.size, by omega, by go_num, by go_num, hmx, HR⟩
                case measure => simp [intOf]; omega
        · have HX : Hid (depthTo ss 0 = some x) := by
            show _ = _
            rw [← HE.out, show k = ss.length by rw [HN.out]; omega, List.drop_length]; rfl
          go_wp2
          go_ret2
          rw [HP.out, HX.out]
          exact ⟨rfl, (Below.refl _ _).alloc (Nat.le_refl _) _⟩
    · have HP : Hid (planDepth ss m = none) := by show _ = _; unfold planDepth; rw [if_neg (by rw [HN.out]; exact h0), if_neg (by rw [HN.out]; exact hmn)]
      have ht2 : ((m : Int) != n) = true := by simp; omega
      clear hmn
      go_enter Try.func9, Try.ntmps9
      go_wp2
      go_ret2
      rw [HP.out]
      exact ⟨rfl, (Below.refl _ _).alloc (Nat.le_refl _) _⟩
end Go.Proofs.Ytalmhbcmagjheaa
end

section
/- Walks of PlanWhole. -/
namespace Go.Proofs.Ytalmhbcmagjheaa
open Go.RowKit

def toL (s : ByteArray) : Path := s.data.toList
def WB (w : World) (ss : List ByteArray) (r : Option (List Path)) (e : Ending) : Prop :=
  match r with
  | none => e = .returned (.tuple #[.slice none 0 0, .bool false])
  | some rest => ∃ (a : Option Addr) (c : Nat) (rs : List ByteArray), e = .returned (.tuple #[.slice a rs.length c, .bool true]) ∧ rs.map toL = rest ∧ Sl w a (rs.map Value.string) ∧ rs.length ≤ c ∧ c ≤ maxLen ∧ rs.length ≤ ss.length ∧ ∀ s ∈ rs, s ∈ ss
theorem wholeM_no {m : Nat} {s p : Path} {r : List Path} (h : ¬ p <+: s) : wholeM m (s :: r) p = none := by cases m <;> simp [wholeM, h]
theorem wholeM_yes {m : Nat} {s p : Path} {r : List Path} (he : s = p) : wholeM m (s :: r) p = some r := by cases m <;> simp [wholeM, he]
set_option maxHeartbeats 1000000 in
theorem wholeBehind_any : ∀ (m : Nat) (a : Option Addr) (c : Nat) (ss : List ByteArray) (pb : ByteArray) (_ : ss.length ≤ 1048576) (_ : ss.length ≤ c) (_ : c ≤ maxLen) (_ : ∀ s ∈ ss, s.size ≤ 10) (_ : pb.size ≤ 10) (_ : 10 ≤ pb.size + m) (w : World) (_ : Sl w a (ss.map Value.string)),
    Calls Try.prog 23 #[.slice a ss.length c, .string pb] w fun e w' => WB w ss (wholeM m (ss.map toL) (toL pb)) e ∧ w = w' := by
  intro m
  induction m using Nat.strongRecOn with
  | ind m ih =>
    intro a c ss pb hn hc hc2 hs hp hm w hS
    cases ss with
    | nil =>
      have HR : Hid (WB w [] (wholeM m (List.map toL []) (toL pb)) (.returned (.tuple #[.slice none 0 0, .bool false]))) := by
        show WB _ _ _ _
        rw [show wholeM m (List.map toL []) (toL pb) = none from by cases m <;> rfl]
        rfl
      clear ih hS hs
      go_enter Try.func23, Try.ntmps23
      go_wp2
      go_ret2
      exact ⟨HR.out, rfl⟩
    | cons s r =>
      have hx : ((s :: r).map Value.string)[0]? = some (Value.string s) := rfl
      obtain ⟨b, off, rfl, hcell⟩ := hS.at hx
      rw [Nat.add_zero] at hcell
      have hsz := hs s (by simp)
      have HS := Lib.hid hS
      have HL := Lib.hid hs
      clear hx hS hs
      obtain ⟨n, hnn⟩ : ∃ n, r.length = n := ⟨_, rfl⟩
      have hlen : (s :: r).length = n + 1 := by simp [hnn]
      rw [hlen] at hn hc ⊢
      have HN := Lib.hid hnn
      clear hnn hlen
      have hnz : ((n : Int) + 1 == 0) = false := by simp; omega
      by_cases hlt : s.size < pb.size
      · have HR : Hid (WB w (s :: r) (wholeM m ((s :: r).map toL) (toL pb)) (.returned (.tuple #[.slice none 0 0, .bool false]))) := by
          show WB _ _ _ _
          have : ¬ toL pb <+: toL s := fun h => by have := h.length_le; rw [toL, toL, len_eq, len_eq] at this; omega
          rw [List.map_cons, wholeM_no this]
          rfl
        clear ih
        go_enter Try.func23, Try.ntmps23
        go_wp2
        go_ret2
        exact ⟨HR.out, rfl⟩
      · have hle : pb.size ≤ s.size := by omega
        have hle2 : (pb.size : Int) ≤ s.size := by omega
        have hnl : ¬ ((s.size : Int) < pb.size) := by omega
        by_cases hpre : (s.extract 0 pb.size).toList = pb.toList
        · have hpb : ((s.extract 0 pb.size).toList == pb.toList) = true := by simp [hpre]
          have hpp : toL pb <+: toL s := by
            rw [ByteArray.toList_eq, ByteArray.toList_eq, Lib.extract_data] at hpre
            simp only [List.drop_zero, Nat.sub_zero] at hpre
            rw [toL, ← hpre]
            exact List.take_prefix _ _
          by_cases heq : s.toList = pb.toList
          · have hsb : (s.toList == pb.toList) = true := by simp [heq]
            have he : toL s = toL pb := by rw [ByteArray.toList_eq, ByteArray.toList_eq] at heq; exact heq
            have HR : Hid (∀ a c, Sl w a (r.map Value.string) → n ≤ c → c ≤ maxLen → WB w (s :: r) (wholeM m ((s :: r).map toL) (toL pb)) (.returned (.tuple #[.slice a n c, .bool true]))) := by
              intro a c h1 h2 h3
              rw [List.map_cons, wholeM_yes he]
              exact ⟨a, c, r, by rw [HN.out], rfl, h1, by rw [HN.out]; exact h2, h3, by simp, fun t ht => List.mem_cons_of_mem _ ht⟩
            have HT : Hid (Sl w (some ⟨b, off + 1, none⟩) (r.map Value.string)) := by
              rcases HS.out with h | ⟨b', o', h1, h2⟩
              · simp at h
              · obtain ⟨rfl, rfl⟩ : b = b' ∧ off = o' := by injection h1 with h1; injection h1 with h3 h4 _; exact ⟨h3, h4⟩
                exact .inr ⟨b, off + 1, rfl, fun i v hv => by have := h2 (i + 1) v hv; rwa [show off + 1 + i = off + (i + 1) by omega]⟩
            have hc1 : (1 : Int) ≤ (n : Int) + 1 := by omega
            have hc3 : (n : Int) + 1 ≤ c := by omega
            clear ih hpre heq hpp he
            go_enter Try.func23, Try.ntmps23
            go_wp2
            all_goals go_ret2
            · have hr : r = [] := List.eq_nil_of_length_eq_zero (by rw [HN.out]; omega)
              exact ⟨HR.out _ _ (.inl (by rw [hr]; rfl)) (by omega) (Nat.zero_le _), rfl⟩
            · exact ⟨HR.out _ _ HT.out (by omega) (Nat.le_trans (Nat.sub_le _ _) hc2), rfl⟩
          · have hsb : (s.toList == pb.toList) = false := by simp [heq]
            have hne : toL s ≠ toL pb := fun h => heq (by rw [ByteArray.toList_eq, ByteArray.toList_eq]; exact h)
            have hlen : pb.size < s.size := by
              rcases Nat.lt_or_eq_of_le hle with h | h
              · exact h
              · exact absurd (hpp.eq_of_length (by rw [toL, toL, len_eq, len_eq]; exact h)).symm hne
            obtain ⟨k0, rfl⟩ : ∃ k0, m = k0 + 1 := ⟨m - 1, by omega⟩
            have HW : Hid (chain (wholeM k0) (toL pb) [48, 49, 50, 51] ((s :: r).map toL) = wholeM (k0 + 1) ((s :: r).map toL) (toL pb)) := by
              show _ = _
              rw [List.map_cons, wholeM]
              rw [if_pos hpp, if_neg hne]
            have HX : Hid (∀ k, k < 4 → toL (pb ++ (⟨#[48, 49, 50, 51]⟩ : ByteArray).extract k (k + 1)) = toL pb ++ [([48, 49, 50, 51] : List UInt8).getD k 0]) := by
              intro k hk
              have : ((⟨#[48, 49, 50, 51]⟩ : ByteArray).extract k (k + 1)).data.toList = [([48, 49, 50, 51] : List UInt8).getD k 0] := by
                rcases (by omega : k = 0 ∨ k = 1 ∨ k = 2 ∨ k = 3) with rfl | rfl | rfl | rfl <;> rfl
              rw [toL, ByteArray.data_append, Array.toList_append, this]
              rfl
            have HZ : Hid (∀ k, k < 4 → (pb ++ (⟨#[48, 49, 50, 51]⟩ : ByteArray).extract k (k + 1)).size = pb.size + 1) := by
              intro k hk
              have := congrArg List.length (HX.out k hk)
              rw [List.length_append, toL, toL, len_eq, len_eq] at this
              exact this
            have HD : Hid (∀ k, k < 4 → ([48, 49, 50, 51] : List UInt8).drop k = ([48, 49, 50, 51] : List UInt8).getD k 0 :: ([48, 49, 50, 51] : List UInt8).drop (k + 1)) := by
              intro k hk
              rcases (by omega : k = 0 ∨ k = 1 ∨ k = 2 ∨ k = 3) with rfl | rfl | rfl | rfl <;> rfl
            have HS0 := Lib.hid (show Sl w (some ⟨b, off, none⟩) ((s :: r).map Value.string) from HS.out)
            have IH := Lib.hid ih
            have HLen : Hid ((s :: r).length = n + 1) := by show _ = _; rw [List.length_cons, HN.out]
            have hp10 : pb.size < 10 := by omega
            generalize hq : toL pb = p at *
            have HQ := Lib.hid hq
            clear ih hpre heq hpp hne hq HS
            go_enter Try.func23, Try.ntmps23
            go_wp2
            go_loop [0, 38] (fun ps i => ∃ (k : Nat) (a' : Option Addr) (c' : Nat) (cs : List ByteArray), k ≤ 4 ∧ i = .int .i64 k ∧ ps = .slice a' cs.length c' ∧ cs.length ≤ c' ∧ c' ≤ maxLen ∧ cs.length ≤ n + 1 ∧ Hid (Sl w a' (cs.map Value.string)) ∧ Hid (∀ t ∈ cs, t ∈ s :: r) ∧ Hid (chain (wholeM k0) p (([48, 49, 50, 51] : List UInt8).drop k) (cs.map toL) = wholeM (k0 + 1) ((s :: r).map toL) p)) (fun _ i => (4 - intOf i).toNat)
            case atStart => exact ⟨0, _, c, s :: r, by omega, rfl, by rw [HLen.out], by rw [HLen.out]; exact hc, hc2, Nat.le_of_eq HLen.out, HS0, fun t ht => ht, HW⟩
            case round =>
              obtain ⟨k, a', c', cs, hk, rfl, rfl, h1, h2, h3, KS, KM, KW⟩ := hrel
              by_cases hlt : k < 4
              · have KX := Lib.hid (HX.out k hlt)
                have KZ := Lib.hid (HZ.out k hlt)
                have KD := KW.out
                rw [HD.out k hlt, chain] at KD
                generalize ([48, 49, 50, 51] : List UInt8).getD k 0 = d at *
                cases hr : wholeM k0 (cs.map toL) (p ++ [d]) with
                | none =>
                  rw [hr] at KD
                  have HN : Hid (WB w (s :: r) (wholeM (k0 + 1) ((s :: r).map toL) p) (.returned (.tuple #[.slice none 0 0, .bool false]))) := by
                    show WB _ _ _ _
                    rw [← KD]
                    rfl
                  have HC : Hid (∀ X : ByteArray, X.size = pb.size + 1 → toL X = p ++ [d] → Calls Try.prog 23 #[.slice a' cs.length c', .string X] w fun e w' => e = .returned (.tuple #[.slice none 0 0, .bool false]) ∧ w = w') := by
                    intro X h hX
                    have := IH.out k0 (by omega) a' c' cs X (by omega) h1 h2 (fun t ht => HL.out t (KM.out t ht)) (by omega) (by omega) w KS.out
                    rw [hX, hr] at this
                    exact this
                  clear KD hr KW
                  go_wp2_with (go_at_call 23; refine (HC.out _ KZ.out KX.out).mono ?_; rintro e w' ⟨rfl, rfl⟩)
                  go_ret2
                  exact ⟨HN.out, rfl⟩
                | some rest =>
                  rw [hr, Option.bind_some] at KD
                  have HK := Lib.hid KD
                  have HC : Hid (∀ X : ByteArray, X.size = pb.size + 1 → toL X = p ++ [d] → Calls Try.prog 23 #[.slice a' cs.length c', .string X] w fun e w' => WB w cs (some rest) e ∧ w = w') := by
                    intro X h hX
                    have := IH.out k0 (by omega) a' c' cs X (by omega) h1 h2 (fun t ht => HL.out t (KM.out t ht)) (by omega) (by omega) w KS.out
                    rw [hX, hr] at this
                    exact this
                  clear KD hr KW
                  go_wp2_with (go_at_call 23; refine (HC.out _ KZ.out KX.out).mono ?_; rintro e w' ⟨⟨a2, c2, rs, rfl, e1, e2, e3, e4, e5, e6⟩, rfl⟩)
                  go_round
                  case rel =>
                    refine ⟨k + 1, a2, c2, rs, by omega, by go_num, rfl, e3, e4, by omega, e2, fun t ht => KM.out t (e6 t ht), ?_⟩
                    show _ = _
                    rw [← HK.out, e1]
                  case measure => simp [intOf]; omega
              · obtain rfl : k = 4 := by omega
                have HN : Hid (WB w (s :: r) (wholeM (k0 + 1) ((s :: r).map toL) p) (.returned (.tuple #[.slice a' cs.length c', .bool true]))) := by
                  show WB _ _ _ _
                  rw [← KW.out]
                  exact ⟨a', c', cs, rfl, rfl, KS.out, h1, h2, by rw [HLen.out]; exact h3, KM.out⟩
                clear KW
                go_wp2
                go_ret2
                exact ⟨HN.out, rfl⟩
        · have hpb : ((s.extract 0 pb.size).toList == pb.toList) = false := by simp [hpre]
          have HR : Hid (WB w (s :: r) (wholeM m ((s :: r).map toL) (toL pb)) (.returned (.tuple #[.slice none 0 0, .bool false]))) := by
            show WB _ _ _ _
            have : ¬ toL pb <+: toL s := fun h => by
              apply hpre
              rw [ByteArray.toList_eq, ByteArray.toList_eq, Lib.extract_data]
              simp only [List.drop_zero, Nat.sub_zero]
              have h1 := List.prefix_iff_eq_take.1 h
              rw [toL, len_eq] at h1
              exact h1.symm
            rw [List.map_cons, wholeM_no this]
            rfl
          clear ih hpre
          go_enter Try.func23, Try.ntmps23
          go_wp2
          go_ret2
          exact ⟨HR.out, rfl⟩
theorem depthTo_all : ∀ {ss : List ByteArray} {d x : Nat}, depthTo ss d = some x → ∀ s ∈ ss, pathOK s 10 = true
  | [], _, _, _ => by simp
  | s :: r, d, x, h => by
    unfold depthTo at h
    split at h
    · rename_i hs
      intro t ht
      rcases List.mem_cons.1 ht with rfl | ht
      · exact hs
      · exact depthTo_all h t ht
    · cases h
theorem planDepth_all {ss : List ByteArray} {m : Nat} {x : Nat} (h : planDepth ss m = some x) : ∀ s ∈ ss, pathOK s 10 = true := by
  unfold planDepth at h
  split at h
  · cases h
  · split at h
    · exact depthTo_all h
    · cases h
theorem okP_of {s : ByteArray} (h : pathOK s 10 = true) : okP (toL s) ∧ s.size ≤ 10 := by
  unfold pathOK at h
  rw [Bool.and_eq_true, decide_eq_true_eq, List.all_eq_true] at h
  refine ⟨⟨by rw [toL, len_eq]; exact h.1, fun c hc => ?_⟩, h.1⟩
  have := h.2 c hc
  unfold digitOK at this
  simpa using this
def planWhole (ss : List ByteArray) (m : Nat) : Bool := (planDepth ss m).isSome && decide (sumTo (ss.map toL) 0 = some 1048576)
theorem whole_ok {ss : List ByteArray} {m x : Nat} (h : planDepth ss m = some x) : (wholeM 10 (ss.map toL) [] = some [] ↔ sumTo (ss.map toL) 0 = some 1048576) := by
  refine whole_same _ fun s hs => ?_
  obtain ⟨t, ht, rfl⟩ := List.mem_map.1 hs
  exact (okP_of (planDepth_all h t ht)).1
set_option maxHeartbeats 1000000 in
theorem implPlanWhole_any (a a2 : Option Addr) (c m c2 : Nat) (p q r : Int) (ss : List ByteArray) (hn : ss.length ≤ 1048576) (hc : ss.length ≤ c) (hc2 : c ≤ maxLen) (hl : ∀ s ∈ ss, s.size ≤ 1048576) (w : World) (hs : Sl w a (ss.map Value.string)) :
    Calls Try.prog 11 #[.agg #[.slice a ss.length c, .slice a2 m c2, .int .i64 p, .int .i64 q, .int .i64 r]] w fun e w' => e = .returned (.bool (planWhole ss m)) ∧ Below w.heap.size w w' := by
  have B := Box.new w #[.slice a ss.length c, .slice a2 m c2, .int .i64 p, .int .i64 q, .int .i64 r] 26
  have HS := Lib.hid (hs.alloc (.cells #[.slice a ss.length c, .slice a2 m c2, .int .i64 p, .int .i64 q, .int .i64 r] 26))
  have HD := Lib.hid (implPlanDepth_any a a2 c m c2 p q r ss hn hl _ HS.out)
  cases hd : planDepth ss m with
  | none =>
    have HP : Hid (planWhole ss m = false) := by show _ = _; unfold planWhole; rw [hd]; rfl
    rw [hd] at HD
    simp only [Option.getD_none, Option.isSome_none] at HD
    clear hs hl hd
    go_enter Try.func11, Try.ntmps11
    go_wp2_with (go_at_call 8; refine HD.out.mono ?_; rintro e w' ⟨rfl, hb⟩; have B2 := Lib.hid (B.step hb); clear hb B)
    go_ret
    rw [HP.out]
    exact ⟨rfl, B2.out.old⟩
  | some x =>
    have H10 := Lib.hid (fun s (hs : s ∈ ss) => (okP_of (planDepth_all hd s hs)).2)
    have HO := Lib.hid (whole_ok hd)
    have HP : Hid (planWhole ss m = decide (sumTo (ss.map toL) 0 = some 1048576)) := by show _ = _; unfold planWhole; rw [hd]; rfl
    rw [hd] at HD
    simp only [Option.getD_some, Option.isSome_some] at HD
    clear hs hl hd
    go_enter Try.func11, Try.ntmps11
    go_wp2_with fail
    refine HD.out.mono ?_
    rintro e w1 ⟨rfl, hb⟩
    replace B := B.step hb
    have HS1 := Lib.hid (HS.out.step hb)
    have c0 := B.cell 0 _ rfl
    clear hb HS HD
    go_wp2_with fail
    refine (wholeBehind_any 10 a c ss ⟨#[]⟩ hn hc hc2 H10.out (Nat.zero_le _) (Nat.le_refl _) _ HS1.out).mono ?_
    rw [show toL ⟨#[]⟩ = [] from rfl]
    rintro e w2 ⟨hw, rfl⟩
    cases hr : wholeM 10 (ss.map toL) [] with
    | none =>
      rw [hr] at hw
      have hw : e = _ := hw
      subst hw
      have HF : Hid (planWhole ss m = false) := by
        show _ = _
        rw [HP.out, decide_eq_false_iff_not, ← HO.out, hr]
        simp
      clear hr HO HP HS1 H10
      go_wp2
      go_ret
      rw [HF.out]
      exact ⟨rfl, B.old⟩
    | some rest =>
      rw [hr] at hw
      obtain ⟨a3, c3, rs, rfl, e1, e2, e3, e4, e5, e6⟩ := hw
      by_cases hz : rs.length = 0
      · have HF : Hid (planWhole ss m = true) := by
          show _ = _
          rw [HP.out, decide_eq_true_eq, ← HO.out, hr, ← e1, List.eq_nil_of_length_eq_zero hz]
          rfl
        clear hr HO HP HS1 H10 e1 e2 e6
        rw [hz]
        go_wp2
        go_ret
        rw [HF.out]
        exact ⟨rfl, B.old⟩
      · have HF : Hid (planWhole ss m = false) := by
          show _ = _
          rw [HP.out, decide_eq_false_iff_not, ← HO.out, hr, ← e1]
          intro h
          simp at h
          exact hz (by rw [h]; rfl)
        have hzb : ((rs.length : Int) == 0) = false := by simp; simpa using hz
        have e7 : rs.length ≤ 1048576 := by omega
        clear hr HO HP HS1 H10 e1 e2 e6
        generalize rs.length = k at *
        go_wp2
        go_ret
        rw [HF.out]
        exact ⟨rfl, B.old⟩
theorem sumTo_le : ∀ (ss : List Path) (x y : Nat), sumTo ss x = some y → y ≤ x + 1048576 * ss.length
  | [], x, y, h => by simp [sumTo] at h; omega
  | s :: r, x, y, h => by
    unfold sumTo at h
    split at h
    · have h1 := sumTo_le r _ _ h
      have h2 : widL s.length ≤ 1048576 := Nat.pow_le_pow_right (by omega) (show 10 - s.length ≤ 10 by omega)
      rw [List.length_cons]
      omega
    · cases h
set_option maxHeartbeats 2000000 in
theorem specPlanWhole_any (a a2 : Option Addr) (c m c2 : Nat) (p q r : Int) (ss : List ByteArray) (hn : ss.length ≤ 1048576) (hl : ∀ s ∈ ss, s.size ≤ 1048576) (w : World) (hs : Sl w a (ss.map Value.string)) :
    Calls Try.prog 12 #[.agg #[.slice a ss.length c, .slice a2 m c2, .int .i64 p, .int .i64 q, .int .i64 r]] w fun e w' => e = .returned (.bool (planWhole ss m)) ∧ Below w.heap.size w w' := by
  have B := Box.new w #[.slice a ss.length c, .slice a2 m c2, .int .i64 p, .int .i64 q, .int .i64 r] 26
  have HS := Lib.hid (hs.alloc (.cells #[.slice a ss.length c, .slice a2 m c2, .int .i64 p, .int .i64 q, .int .i64 r] 26))
  have HD := Lib.hid (specPlanDepth_any a a2 c m c2 p q r ss hn hl _ HS.out)
  cases hd : planDepth ss m with
  | none =>
    have HP : Hid (planWhole ss m = false) := by show _ = _; unfold planWhole; rw [hd]; rfl
    rw [hd] at HD
    simp only [Option.getD_none, Option.isSome_none] at HD
    clear hs hl hd
    go_enter Try.func12, Try.ntmps12
    go_wp2_with (go_at_call 9; refine HD.out.mono ?_; rintro e w' ⟨rfl, hb⟩; have B2 := Lib.hid (B.step hb); clear hb B)
    go_ret
    rw [HP.out]
    exact ⟨rfl, B2.out.old⟩
  | some x =>
    have HK := Lib.hid (fun s (hs : s ∈ ss) => okP_of (planDepth_all hd s hs))
    have HP : Hid (planWhole ss m = decide (sumTo (ss.map toL) 0 = some 1048576)) := by show _ = _; unfold planWhole; rw [hd]; rfl
    rw [hd] at HD
    simp only [Option.getD_some, Option.isSome_some] at HD
    clear hs hl hd
    go_enter Try.func12, Try.ntmps12
    go_wp2_with fail
    refine HD.out.mono ?_
    rintro e w1 ⟨rfl, hb⟩
    replace B := B.step hb
    have HS1 := Lib.hid (HS.out.step hb)
    have c0 := B.cell 0 _ rfl
    have HB := Lib.hid B
    clear hb HS HD B
    obtain ⟨n, hnn⟩ : ∃ n, ss.length = n := ⟨_, rfl⟩
    have HN := Lib.hid hnn
    rw [hnn] at c0 hn
    clear hnn
    have HM : Hid ((ss.map toL).length = n) := by show _ = _; rw [List.length_map, HN.out]
    go_wp2
    go_loop [5, 6] (fun d i => ∃ k x : Nat, k ≤ n ∧ i = .int .i64 k ∧ d = .int .i64 x ∧ x ≤ 1048576 * k ∧ Hid (sumTo ((ss.map toL).drop k) x = sumTo (ss.map toL) 0)) (fun _ i => (n - intOf i).toNat)
    case atStart => exact ⟨0, 0, by omega, rfl, rfl, by omega, rfl⟩
    case round =>
      obtain ⟨k, x, hk, rfl, rfl, hx1, HE⟩ := hrel
      by_cases hlt : k < n
      · have hx : (ss.map Value.string)[k]? = some (Value.string (ss[k]'(by rw [HN.out]; exact hlt))) := by
          rw [List.getElem?_map, List.getElem?_eq_getElem (by rw [HN.out]; exact hlt)]; rfl
        obtain ⟨b, off, rfl, hc⟩ := HS1.out.at hx
        have hsz := HK.out _ (List.getElem_mem (by rw [HN.out]; exact hlt) : ss[k]'(by rw [HN.out]; exact hlt) ∈ ss)
        have HD : Hid ((ss.map toL).drop k = toL (ss[k]'(by rw [HN.out]; exact hlt)) :: (ss.map toL).drop (k + 1)) := by
          have := List.drop_eq_getElem_cons (l := ss.map toL) (i := k) (by rw [HM.out]; exact hlt)
          rw [List.getElem_map] at this
          exact this
        clear hx
        generalize ss[k]'(by rw [HN.out]; exact hlt) = s at *
        obtain ⟨hok, hs10⟩ := hsz
        have HO := Lib.hid hok
        clear hok
        go_wp2
        go_loop [8, 9] (fun f i => ∃ j g : Nat, j ≤ s.size ∧ i = .int .i64 j ∧ f = .int .i64 g ∧ g ≤ 1048575 ∧ Hid (g < 4 ^ j) ∧ Hid (numL ((toL s).drop j) g = numL (toL s) 0)) (fun _ i => (s.size - intOf i).toNat)
        case atStart => exact ⟨0, 0, by omega, rfl, rfl, by omega, by show _ < _; simp, rfl⟩
        case round =>
          obtain ⟨j, g, hj, rfl, rfl, hg, HG, HF⟩ := hrel
          by_cases hjlt : j < s.size
          · have hjl : j < (toL s).length := by rw [toL, len_eq]; exact hjlt
            have hb := HO.out.2 ((toL s)[j]) (List.getElem_mem hjl)
            have hbe : s[j] = (toL s)[j] := by
              have h1 := byte_eq s j hjlt
              have h2 : (toL s).getD j 0 = (toL s)[j] := by rw [List.getD_eq_getElem?_getD, List.getElem?_eq_getElem hjl]; rfl
              exact h1.trans h2
            have HQ : Hid (numL ((toL s).drop (j + 1)) (4 * g + (s[j].toNat - 48)) = numL (toL s) 0) := by
              show _ = _
              rw [← HF.out, List.drop_eq_getElem_cons hjl, numL, hbe]
            rw [← hbe] at hb
            clear hbe
            obtain ⟨hb1, hb2⟩ := hb
            have HG2 : Hid (4 * g + (s[j].toNat - 48) < 4 ^ (j + 1)) := by
              show _ < _
              have := HG.out
              rw [Nat.pow_succ]
              omega
            have hg2 : 4 * g + (s[j].toNat - 48) ≤ 1048575 := by
              have := HG2.out
              have h4 : 4 ^ (j + 1) ≤ 4 ^ 10 := Nat.pow_le_pow_right (by omega) (by omega)
              omega
            go_wp2
            go_round
            case rel => exact ⟨j + 1, 4 * g + (s[j].toNat - 48), by omega, by go_num, by go_num, hg2, HG2, HQ⟩
            case measure => simp [intOf]; omega
          · have hg3 : Hid (g = numL (toL s) 0) := by
              show _ = _
              rw [← HF.out, List.drop_of_length_le (by rw [toL, len_eq]; omega)]
              rfl
            clear HF HG
            obtain ⟨W, hW⟩ : ∃ W, W = widL s.size := ⟨_, rfl⟩
            have hW1 : W ≤ 1048576 := by rw [hW]; exact Nat.pow_le_pow_right (by omega) (show 10 - s.size ≤ 10 by omega)
            have e0 : (2 : Int) ^ (2 * (10 - s.size)) = (W : Int) := by
              rw [hW, widL, Int.pow_mul]
              simp
            have e1 : wrap64 ((2 : Int) ^ (2 * (10 - s.size))) = (W : Int) := by rw [e0]; (unfold wrap64; omega)
            have hA1 : g * W ≤ 1048575 * 1048576 := Nat.mul_le_mul hg hW1
            have hA2 : Hid (atP (toL s) = g * W) := by
              show _ = _
              rw [atP, ← hg3.out, hW, show (toL s).length = s.size from len_eq s]
            obtain ⟨A, hA⟩ : ∃ A, A = g * W := ⟨_, rfl⟩
            rw [← hA] at hA1 hA2
            have e2 : wrap64 ((g : Int) * (W : Int)) = (A : Int) := by
              have : (g : Int) * (W : Int) = (A : Int) := by rw [hA]; simp
              rw [this]; (unfold wrap64; omega)
            have HWd : Hid (widL (toL s).length = W) := by show _ = _; rw [hW, show (toL s).length = s.size from len_eq s]
            clear e0 hA hW
            have hx2 : x ≤ 1099511627776 := by omega
            by_cases hax : A = x
            · have hne : ((A : Int) != (x : Int)) = false := by simp; omega
              have HR : Hid (sumTo ((ss.map toL).drop (k + 1)) (x + W) = sumTo (ss.map toL) 0) := by
                show _ = _
                rw [← HE.out, HD.out, sumTo, hA2.out, if_pos hax, HWd.out]
              clear hax
              go_wp2
              go_round
              case rel => exact ⟨k + 1, x + W, by omega, by go_num, by go_num, by omega, HR⟩
              case measure => simp [intOf]; omega
            · have hne : ((A : Int) != (x : Int)) = true := by simp; omega
              have HR : Hid (planWhole ss m = false) := by
                show _ = _
                rw [HP.out, decide_eq_false_iff_not, ← HE.out, HD.out, sumTo, hA2.out, if_neg hax]
                simp
              clear hax
              go_wp2
              go_ret
              rw [HR.out]
              exact ⟨rfl, HB.out.old⟩
      · have HX : Hid (sumTo (ss.map toL) 0 = some x) := by
          show _ = _
          rw [← HE.out, show k = (ss.map toL).length by rw [HM.out]; omega, List.drop_length]; rfl
        have hx2 : x ≤ 1099511627776 := by omega
        by_cases hxe : x = 1048576
        · have hb : ((x : Int) == 1048576) = true := by simp; omega
          have HR : Hid (planWhole ss m = true) := by show _ = _; rw [HP.out, HX.out, hxe]; rfl
          clear hxe
          go_wp2
          go_ret
          rw [HR.out]
          exact ⟨rfl, HB.out.old⟩
        · have hb : ((x : Int) == 1048576) = false := by simp; omega
          have HR : Hid (planWhole ss m = false) := by
            show _ = _
            rw [HP.out, HX.out, decide_eq_false_iff_not]
            intro h; exact hxe (by simpa using h)
          clear hxe
          go_wp2
          go_ret
          rw [HR.out]
          exact ⟨rfl, HB.out.old⟩
end Go.Proofs.Ytalmhbcmagjheaa
end

section
/- Plain: depths of plans; a whole stays whole when its first part is cut. -/
namespace Go.Proofs.Ytalmhbcmagjheaa

theorem depthTo_bd : ∀ {ss : List ByteArray} {x d : Nat}, depthTo ss x = some d → x ≤ d ∧ (∀ s, s ∈ ss → s.size ≤ d) ∧ (d = x ∨ ∃ s, s ∈ ss ∧ s.size = d)
  | [], x, d, h => by
    simp only [depthTo, Option.some.injEq] at h
    subst h
    exact ⟨Nat.le_refl _, fun s hs => (by cases hs), .inl rfl⟩
  | s :: r, x, d, h => by
    unfold depthTo at h
    split at h
    · obtain ⟨h1, h2, h3⟩ := depthTo_bd h
      refine ⟨by omega, fun u hu => ?_, ?_⟩
      · rcases List.mem_cons.1 hu with rfl | hu
        · omega
        · exact h2 u hu
      · rcases h3 with h3 | ⟨u, hu, h3⟩
        · by_cases hx : s.size ≤ x
          · exact .inl (by omega)
          · exact .inr ⟨s, List.mem_cons_self .., by omega⟩
        · exact .inr ⟨u, List.mem_cons_of_mem _ hu, h3⟩
    · cases h
/-- the depth of a plan is a length of one of its paths, and the greatest -/
theorem planDepth_bd {ss : List ByteArray} {m d : Nat} (h : planDepth ss m = some d) : 0 < ss.length ∧ m = ss.length ∧ (∀ s, s ∈ ss → s.size ≤ d) ∧ ∃ s, s ∈ ss ∧ s.size = d := by
  unfold planDepth at h
  split at h
  · cases h
  · rename_i hn
    split at h
    · rename_i hm
      obtain ⟨-, h2, h3⟩ := depthTo_bd h
      refine ⟨by omega, hm, h2, ?_⟩
      rcases h3 with h3 | h3
      · cases ss with
        | nil => exact absurd rfl hn
        | cons s r =>
          have := h2 s (List.mem_cons_self ..)
          exact ⟨s, List.mem_cons_self .., by omega⟩
      · exact h3
    · cases h
theorem depthTo_some : ∀ {ss : List ByteArray} (x : Nat), (∀ s, s ∈ ss → pathOK s 10 = true) → ∃ d, depthTo ss x = some d
  | [], x, _ => ⟨x, rfl⟩
  | s :: r, x, h => by
    rw [depthTo_ok (h s (List.mem_cons_self ..))]
    exact depthTo_some _ (fun u hu => h u (List.mem_cons_of_mem _ hu))
def cut4 (s : ByteArray) : List ByteArray := [s ++ ⟨#[48]⟩, s ++ ⟨#[49]⟩, s ++ ⟨#[50]⟩, s ++ ⟨#[51]⟩]
theorem pathOK_snoc {s : ByteArray} {c : UInt8} (h : pathOK s 10 = true) (h9 : s.size ≤ 9) (hc : digitOK c = true) : pathOK (s ++ ⟨#[c]⟩) 10 = true := by
  unfold pathOK at h ⊢
  simp only [Bool.and_eq_true, decide_eq_true_eq, List.all_eq_true] at h ⊢
  refine ⟨?_, fun u hu => ?_⟩
  · rw [ByteArray.size_append]
    show s.size + 1 ≤ 10
    omega
  · rw [ByteArray.data_append, Array.toList_append] at hu
    rcases List.mem_append.1 hu with hu | hu
    · exact h.2 u hu
    · obtain rfl : u = c := by simpa using hu
      exact hc
theorem toL_snoc (s : ByteArray) (c : UInt8) : toL (s ++ ⟨#[c]⟩) = toL s ++ [c] := by
  unfold toL
  rw [ByteArray.data_append, Array.toList_append]
theorem whole_cut {ss : List ByteArray} {m d : Nat} {s : ByteArray} {r : List ByteArray} (he : ss = s :: r) (hw : planWhole ss m = true) (hd : planDepth ss m = some d) (h9 : d ≤ 9) : planWhole (cut4 s ++ r) (4 + (m - 1)) = true := by
  obtain ⟨hl, hm, hb, -⟩ := planDepth_bd hd
  have hall := planDepth_all hd
  subst he
  have hs9 : s.size ≤ 9 := by have := hb s (List.mem_cons_self ..); omega
  have hps := hall s (List.mem_cons_self ..)
  have hok : ∀ u, u ∈ cut4 s ++ r → pathOK u 10 = true := fun u hu => by
    rcases List.mem_append.1 hu with hu | hu
    · unfold cut4 at hu
      simp only [List.mem_cons, List.not_mem_nil, or_false] at hu
      rcases hu with rfl | rfl | rfl | rfl <;> exact pathOK_snoc hps hs9 (by decide)
    · exact hall u (List.mem_cons_of_mem _ hu)
  have hlen : (cut4 s ++ r).length = 4 + (m - 1) := by
    rw [List.length_append, hm, List.length_cons]
    show 4 + r.length = _
    omega
  unfold planWhole at hw ⊢
  simp only [Bool.and_eq_true, decide_eq_true_eq] at hw ⊢
  refine ⟨?_, ?_⟩
  · unfold planDepth
    rw [if_neg (by omega), if_pos hlen.symm]
    obtain ⟨x, hx⟩ := depthTo_some (ss := cut4 s ++ r) 0 hok
    rw [hx]; rfl
  · have h2 := hw.2
    rw [List.map_cons] at h2
    unfold sumTo at h2
    split at h2
    · rename_i ha
      have hsz : (toL s).length = s.size := len_eq s
      have hws := widL_succ (n := s.size) (by omega)
      have hwp := widL_pos s.size
      have hn0 : numL (toL s) 0 = 0 := by
        unfold atP at ha
        rw [hsz] at ha
        rcases Nat.mul_eq_zero.1 ha with h | h
        · exact h
        · omega
      have hat : ∀ c : UInt8, atP (toL (s ++ ⟨#[c]⟩)) = (c.toNat - 48) * widL (s.size + 1) := fun c => by
        rw [toL_snoc, atP_snoc, hn0, hsz, Nat.mul_zero, Nat.zero_add]
      have hwl : ∀ c : UInt8, widL (toL (s ++ ⟨#[c]⟩)).length = widL (s.size + 1) := fun c => by
        rw [toL_snoc, List.length_append, hsz]; rfl
      rw [hsz, hws] at h2
      show sumTo (toL (s ++ ⟨#[48]⟩) :: toL (s ++ ⟨#[49]⟩) :: toL (s ++ ⟨#[50]⟩) :: toL (s ++ ⟨#[51]⟩) :: r.map toL) 0 = _
      have e0 := hat 48
      have e1 := hat 49
      have e2 := hat 50
      have e3 := hat 51
      generalize widL (s.size + 1) = Wd at *
      unfold sumTo
      rw [if_pos (by rw [e0]; show (48 - 48) * Wd = 0; omega), hwl]
      unfold sumTo
      rw [if_pos (by rw [e1]; show (49 - 48) * Wd = 0 + Wd; omega), hwl]
      unfold sumTo
      rw [if_pos (by rw [e2]; show (50 - 48) * Wd = 0 + Wd + Wd; omega), hwl]
      unfold sumTo
      rw [if_pos (by rw [e3]; show (51 - 48) * Wd = 0 + Wd + Wd + Wd; omega), hwl]
      rw [show 0 + Wd + Wd + Wd + Wd = 0 + 4 * Wd by omega]
      exact h2
    · cases h2
end Go.Proofs.Ytalmhbcmagjheaa
end
