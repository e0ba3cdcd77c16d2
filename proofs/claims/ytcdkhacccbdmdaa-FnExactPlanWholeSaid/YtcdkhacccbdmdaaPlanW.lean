/- Walks: the depth of plans. -/
import Derived.Test.YtcdkhacccbdmdaaLawS
import Derived.Test.YtcdkhacccbdmdaaPlanP
namespace Go.Proofs.Ytcdkhacccbdmdaa
open Go.RowKit

theorem digit_of {s : ByteArray} {j : Nat} (h : j < s.size) : digitOK (s.data.toList.getD j 0) = (decide (48 ≤ s[j].toNat) && decide (s[j].toNat ≤ 51)) := by
  rw [← byte_eq s j h]; rfl
set_option maxHeartbeats 400000 in
theorem pathWell_any (s : ByteArray) (hs : s.size ≤ 1048576) (most : Nat) (mi : Int) (hm : mi = most) (w : World) : Calls Try.prog 40 #[.string s, .int .i64 mi] w fun e w' => e = .returned (.bool (pathOK s most)) ∧ w = w' := by
  subst hm
  by_cases hlong : most < s.size
  · rw [pathOK_long hlong]
    go_enter Try.func40, Try.ntmps40
    go_wp2
    go_ret
    exact ⟨rfl, rfl⟩
  · have hle : s.size ≤ most := by omega
    go_enter Try.func40, Try.ntmps40
    go_wp2
    go_loop [5, 12] (fun _ i => ∃ k : Nat, k ≤ s.size ∧ i = .int .i64 k ∧ Hid (∀ j, j < k → digitOK (s.data.toList.getD j 0) = true)) (fun _ i => (s.size - intOf i).toNat)
    case atStart => exact ⟨0, by omega, rfl, fun j hj => by omega⟩
    case round =>
      obtain ⟨k, hk, rfl, HD⟩ := hrel
      by_cases hlt : k < s.size
      · have hdg := digit_of hlt
        by_cases h1 : s[k].toNat < 48
        · have HB : Hid (pathOK s most = false) := pathOK_bad hlt (by rw [hdg]; simp; omega)
          clear hdg
          go_wp2
          go_ret
          rw [HB.out]
          exact ⟨rfl, rfl⟩
        · by_cases h2 : 51 < s[k].toNat
          · have HB : Hid (pathOK s most = false) := pathOK_bad hlt (by rw [hdg]; simp; omega)
            clear hdg
            go_wp2
            go_ret
            rw [HB.out]
            exact ⟨rfl, rfl⟩
          · have HN : Hid (∀ j, j < k + 1 → digitOK (s.data.toList.getD j 0) = true) := by
              intro j hj
              by_cases e : j = k
              · rw [e, hdg]; simp; omega
              · exact HD.out j (by omega)
            clear hdg
            go_wp2
            go_round
            case rel => exact ⟨k + 1, by omega, by go_num, HN⟩
            case measure => simp [intOf]; omega
      · have HP : Hid (pathOK s most = true) := pathOK_of hle (fun j hj => HD.out j (by omega))
        go_wp2
        go_ret
        rw [HP.out]
        exact ⟨rfl, rfl⟩
set_option maxHeartbeats 1000000 in
theorem implPlanDepth_any (a a2 : Option Addr) (c m c2 : Nat) (p q r : Int) (ss : List ByteArray) (hn : ss.length ≤ 1048576) (hl : ∀ s ∈ ss, s.size ≤ 1048576) (w : World) (hs : Sl w a (ss.map Value.string)) :
    Calls Try.prog 18 #[.agg #[.slice a ss.length c, .slice a2 m c2, .int .i64 p, .int .i64 q, .int .i64 r]] w fun e w' => e = .returned (.tuple #[.int .i64 ((planDepth ss m).getD 0 : Nat), .bool (planDepth ss m).isSome]) ∧ Below w.heap.size w w' := by
  have hs' := hs.alloc (.cells #[.slice a ss.length c, .slice a2 m c2, .int .i64 p, .int .i64 q, .int .i64 r] 36)
  obtain ⟨n, hnn⟩ : ∃ n, ss.length = n := ⟨_, rfl⟩
  rw [hnn] at hn hs' ⊢
  have HN := Lib.hid hnn
  have HS := Lib.hid hs'
  have HL := Lib.hid hl
  clear hnn hs hs' hl
  by_cases h0 : n = 0
  · have HP : Hid (planDepth ss m = none) := by show _ = _; unfold planDepth; rw [if_pos (HN.out.trans h0)]
    have ht : ((n : Int) == 0) = true := by simp; omega
    clear h0
    go_enter Try.func18, Try.ntmps18
    go_wp2
    go_ret2
    rw [HP.out]
    exact ⟨rfl, (Below.refl _ _).alloc (Nat.le_refl _) _⟩
  · have ht : ((n : Int) == 0) = false := by simp; omega
    by_cases hmn : m = n
    · have HP : Hid (planDepth ss m = depthTo ss 0) := by show _ = _; unfold planDepth; rw [if_neg (by rw [HN.out]; exact h0), if_pos (by rw [HN.out]; exact hmn)]
      have ht2 : ((m : Int) != n) = false := by simp; omega
      clear hmn
      go_enter Try.func18, Try.ntmps18
      go_wp2
      go_loop [4, 6, 23] (fun d _ i => ∃ k x : Nat, k ≤ n ∧ i = .int .i64 k ∧ d = .int .i64 x ∧ x ≤ 1048576 ∧ Hid (depthTo (ss.drop k) x = depthTo ss 0)) (fun _ _ i => (n - intOf i).toNat)
      case atStart => exact ⟨0, 0, by omega, rfl, rfl, by omega, rfl⟩
      case round =>
        obtain ⟨k, x, hk, rfl, rfl, hx1, HE⟩ := hrel
        by_cases hlt : k < n
        · have hx : (ss.map Value.string)[k]? = some (Value.string (ss[k]'(by rw [HN.out]; exact hlt))) := by
            rw [List.getElem?_map, List.getElem?_eq_getElem (by rw [HN.out]; exact hlt)]; rfl
          obtain ⟨b, off, rfl, hc⟩ := HS.out.at hx
          have hsz := HL.out _ (List.getElem_mem (by rw [HN.out]; exact hlt) : ss[k]'(by rw [HN.out]; exact hlt) ∈ ss)
          have HD : Hid (ss.drop k = ss[k]'(by rw [HN.out]; exact hlt) :: ss.drop (k + 1)) := List.drop_eq_getElem_cons _
          clear hx
          generalize ss[k]'(by rw [HN.out]; exact hlt) = s at *
          cases hok : pathOK s 10 with
          | false =>
            have HR : Hid (depthTo ss 0 = none) := by show _ = _; rw [← HE.out, HD.out, depthTo_no hok]
            go_wp2_with (go_at_call 40; refine (pathWell_any s hsz 10 10 rfl _).mono ?_; rintro e w' ⟨rfl, rfl⟩)
            go_ret2
            rw [HP.out, HR.out]
            exact ⟨rfl, (Below.refl _ _).alloc (Nat.le_refl _) _⟩
          | true =>
            have HR : Hid (depthTo (ss.drop (k + 1)) (max x s.size) = depthTo ss 0) := by show _ = _; rw [← HE.out, HD.out, depthTo_ok hok]
            have hmx : max x s.size ≤ 1048576 := by omega
            go_wp2_with (go_at_call 40; refine (pathWell_any s hsz 10 10 rfl _).mono ?_; rintro e w' ⟨rfl, rfl⟩)
            go_round
            case rel => exact ⟨k + 1, max x s.size, by omega, by go_num, by go_num, hmx, HR⟩
            case measure => simp [intOf]; omega
        · have HX : Hid (depthTo ss 0 = some x) := by
            show _ = _
            rw [← HE.out, show k = ss.length by rw [HN.out]; omega, List.drop_length]; rfl
          go_wp2
          go_ret2
          rw [HP.out, HX.out]
          exact ⟨rfl, (Below.refl _ _).alloc (Nat.le_refl _) _⟩
    · have HP : Hid (planDepth ss m = none) := by show _ = _; unfold planDepth; rw [if_neg (by rw [HN.out]; exact h0), if_neg (by rw [HN.out]; exact hmn)]
      have ht2 : ((m : Int) != n) = true := by simp; omega
      clear hmn
      go_enter Try.func18, Try.ntmps18
      go_wp2
      go_ret2
      rw [HP.out]
      exact ⟨rfl, (Below.refl _ _).alloc (Nat.le_refl _) _⟩
set_option maxHeartbeats 1000000 in
theorem specPlanDepth_any (a a2 : Option Addr) (c m c2 : Nat) (p q r : Int) (ss : List ByteArray) (hn : ss.length ≤ 1048576) (hl : ∀ s ∈ ss, s.size ≤ 1048576) (w : World) (hs : Sl w a (ss.map Value.string)) :
    Calls Try.prog 19 #[.agg #[.slice a ss.length c, .slice a2 m c2, .int .i64 p, .int .i64 q, .int .i64 r]] w fun e w' => e = .returned (.tuple #[.int .i64 ((planDepth ss m).getD 0 : Nat), .bool (planDepth ss m).isSome]) ∧ Below w.heap.size w w' := by
  have hs' := hs.alloc (.cells #[.slice a ss.length c, .slice a2 m c2, .int .i64 p, .int .i64 q, .int .i64 r] 36)
  obtain ⟨n, hnn⟩ : ∃ n, ss.length = n := ⟨_, rfl⟩
  rw [hnn] at hn hs' ⊢
  have HN := Lib.hid hnn
  have HS := Lib.hid hs'
  have HL := Lib.hid hl
  clear hnn hs hs' hl
  by_cases h0 : n = 0
  · have HP : Hid (planDepth ss m = none) := by show _ = _; unfold planDepth; rw [if_pos (HN.out.trans h0)]
    have ht : ((n : Int) == 0) = true := by simp; omega
    clear h0
    go_enter Try.func19, Try.ntmps19
    go_wp2
    go_ret2
    rw [HP.out]
    exact ⟨rfl, (Below.refl _ _).alloc (Nat.le_refl _) _⟩
  · have ht : ((n : Int) == 0) = false := by simp; omega
    by_cases hmn : m = n
    · have HP : Hid (planDepth ss m = depthTo ss 0) := by show _ = _; unfold planDepth; rw [if_neg (by rw [HN.out]; exact h0), if_pos (by rw [HN.out]; exact hmn)]
      have ht2 : ((m : Int) != n) = false := by simp; omega
      clear hmn
      go_enter Try.func19, Try.ntmps19
      go_wp2
      go_loop [4, 5] (fun d i => ∃ k x : Nat, k ≤ n ∧ i = .int .i64 k ∧ d = .int .i64 x ∧ x ≤ 1048576 ∧ Hid (depthTo (ss.drop k) x = depthTo ss 0)) (fun _ i => (n - intOf i).toNat)
      case atStart => exact ⟨0, 0, by omega, rfl, rfl, by omega, rfl⟩
      case round =>
        obtain ⟨k, x, hk, rfl, rfl, hx1, HE⟩ := hrel
        by_cases hlt : k < n
        · have hx : (ss.map Value.string)[k]? = some (Value.string (ss[k]'(by rw [HN.out]; exact hlt))) := by
            rw [List.getElem?_map, List.getElem?_eq_getElem (by rw [HN.out]; exact hlt)]; rfl
          obtain ⟨b, off, rfl, hc⟩ := HS.out.at hx
          have hsz := HL.out _ (List.getElem_mem (by rw [HN.out]; exact hlt) : ss[k]'(by rw [HN.out]; exact hlt) ∈ ss)
          have HD : Hid (ss.drop k = ss[k]'(by rw [HN.out]; exact hlt) :: ss.drop (k + 1)) := List.drop_eq_getElem_cons _
          clear hx
          generalize ss[k]'(by rw [HN.out]; exact hlt) = s at *
          by_cases hlong : 10 < s.size
          · have HR : Hid (depthTo ss 0 = none) := by show _ = _; rw [← HE.out, HD.out, depthTo_no (pathOK_long hlong)]
            go_wp2
            go_ret2
            rw [HP.out, HR.out]
            exact ⟨rfl, (Below.refl _ _).alloc (Nat.le_refl _) _⟩
          · go_wp2
            go_loop [7] (fun i => ∃ j : Nat, j ≤ s.size ∧ i = .int .i64 j ∧ Hid (∀ i, i < j → digitOK (s.data.toList.getD i 0) = true)) (fun i => (s.size - intOf i).toNat)
            case atStart => exact ⟨0, by omega, rfl, fun j hj => by omega⟩
            case round =>
              obtain ⟨j, hj, rfl, HG⟩ := hrel
              by_cases hjlt : j < s.size
              · have hdg := digit_of hjlt
                by_cases h1 : s[j].toNat < 48
                · have HR : Hid (depthTo ss 0 = none) := by show _ = _; rw [← HE.out, HD.out, depthTo_no (pathOK_bad hjlt (by rw [hdg]; simp; omega))]
                  clear hdg
                  go_wp2
                  go_ret2
                  rw [HP.out, HR.out]
                  exact ⟨rfl, (Below.refl _ _).alloc (Nat.le_refl _) _⟩
                · by_cases h2 : 51 < s[j].toNat
                  · have HR : Hid (depthTo ss 0 = none) := by show _ = _; rw [← HE.out, HD.out, depthTo_no (pathOK_bad hjlt (by rw [hdg]; simp; omega))]
                    clear hdg
                    go_wp2
                    go_ret2
                    rw [HP.out, HR.out]
                    exact ⟨rfl, (Below.refl _ _).alloc (Nat.le_refl _) _⟩
                  · have HM : Hid (∀ i, i < j + 1 → digitOK (s.data.toList.getD i 0) = true) := by
                      intro i hi
                      by_cases e : i = j
                      · rw [e, hdg]; simp; omega
                      · exact HG.out i (by omega)
                    clear hdg
                    go_wp2
                    go_round
                    case rel => exact ⟨j + 1, by omega, by go_num, HM⟩
                    case measure => simp [intOf]; omega
              · have HR : Hid (depthTo (ss.drop (k + 1)) (max x s.size) = depthTo ss 0) := by
                  show _ = _
                  rw [← HE.out, HD.out, depthTo_ok (pathOK_of (by omega) (fun i hi => HG.out i (by omega)))]
                have hmx : max x s.size ≤ 1048576 := by omega
                go_wp2
                go_round
                case rel => exact ⟨k + 1, max x s.size, by omega, by go_num, by go_num, hmx, HR⟩
                case measure => simp [intOf]; omega
        · have HX : Hid (depthTo ss 0 = some x) := by
            show _ = _
            rw [← HE.out, show k = ss.length by rw [HN.out]; omega, List.drop_length]; rfl
          go_wp2
          go_ret2
          rw [HP.out, HX.out]
          exact ⟨rfl, (Below.refl _ _).alloc (Nat.le_refl _) _⟩
    · have HP : Hid (planDepth ss m = none) := by show _ = _; unfold planDepth; rw [if_neg (by rw [HN.out]; exact h0), if_neg (by rw [HN.out]; exact hmn)]
      have ht2 : ((m : Int) != n) = true := by simp; omega
      clear hmn
      go_enter Try.func19, Try.ntmps19
      go_wp2
      go_ret2
      rw [HP.out]
      exact ⟨rfl, (Below.refl _ _).alloc (Nat.le_refl _) _⟩
/-- what toPlan gives: slices of its own that hold the same -/
def PlanOut (ss : List ByteArray) (ms : List Int) (p q r : Int) (w : World) (e : Ending) (w' : World) : Prop :=
  ∃ b1 b2 : Nat, e = .returned (.agg #[.slice (some ⟨b1, 0, none⟩) ss.length ss.length, .slice (some ⟨b2, 0, none⟩) ms.length ms.length, .int .i64 p, .int .i64 q, .int .i64 r]) ∧
    Sl w' (some ⟨b1, 0, none⟩) (ss.map Value.string) ∧ Sl w' (some ⟨b2, 0, none⟩) (ms.map (Value.int .i64)) ∧ Below w.heap.size w w'
set_option maxHeartbeats 1000000 in
theorem toPlan_any (a a2 : Option Addr) (c c2 : Nat) (p q r : Int) (ss : List ByteArray) (ms : List Int) (hn : ss.length ≤ 1048576) (hm : ms.length ≤ 1048576) (w : World) (hs : Sl w a (ss.map Value.string)) (hs2 : Sl w a2 (ms.map (Value.int .i64))) :
    Calls Try.prog 14 #[.agg #[.slice a ss.length c, .slice a2 ms.length c2, .int .i64 p, .int .i64 q, .int .i64 r]] w (PlanOut ss ms p q r w) := by
  have HS := Lib.hid hs
  have HS2 := Lib.hid hs2
  clear hs hs2
  obtain ⟨C0, hC0⟩ : ∃ C0, C0 = #[Value.slice a ss.length c, .slice a2 ms.length c2, .int .i64 p, .int .i64 q, .int .i64 r] := ⟨_, rfl⟩
  obtain ⟨Z, hZ⟩ : ∃ Z, Z = #[Value.slice none 0 0, .slice none 0 0, .int .i64 0, .int .i64 0, .int .i64 0] := ⟨_, rfl⟩
  have X0 : Box w w.heap.size C0 33 (((w.alloc (.cells C0 33)).alloc (.cells Z 36)).alloc (.cells Z 36)) := ((Box.new w C0 _).alloc _).alloc _
  have X1 : Box w (w.heap.size + 1) Z 36 (((w.alloc (.cells C0 33)).alloc (.cells Z 36)).alloc (.cells Z 36)) := by
    have := ((Box.new (w.alloc (.cells C0 33)) Z 36).alloc (.cells Z 36)).up (w0 := w) ((Below.refl _ _).alloc (Nat.le_refl _) _)
    rwa [World.size_alloc] at this
  have X2 : Box w (w.heap.size + 1 + 1) Z 36 (((w.alloc (.cells C0 33)).alloc (.cells Z 36)).alloc (.cells Z 36)) := by
    have := (Box.new ((w.alloc (.cells C0 33)).alloc (.cells Z 36)) Z 36).up (w0 := w) (((Below.refl _ _).alloc (Nat.le_refl _) _).alloc (by simp) _)
    rwa [World.size_alloc, World.size_alloc] at this
  subst hC0 hZ
  go_enter Try.func14, Try.ntmps14
  go_wp2_with fail
  refine (toStringS_any a c ss hn _ (((HS.out.alloc _).alloc _).alloc _)).mono ?_
  rintro e w1 ⟨rfl, C, hC, hB⟩
  replace X0 := X0.step hB.old
  replace X1 := X1.step hB.old
  replace X2 := X2.step hB.old
  have s1 := Lib.hid (Sl.of_box hB hC)
  clear hC
  simp only [World.size_alloc] at hB s1
  have c1 := X0.cell 1 _ rfl
  have d0 := X2.cell 0 _ rfl
  have f0 := X2.frozen 0
  have hlt : w.heap.size + 1 + 1 < w1.heap.size := X2.lt
  go_wp2_with fail
  replace X0 := X0.other (p := ⟨w.heap.size + 1 + 1, 0, none⟩) (by simp; omega) (by simp <;> omega) (.slice (some ⟨w.heap.size + 1 + 1 + 1, 0, none⟩) ss.length ss.length)
  replace X1 := X1.other (p := ⟨w.heap.size + 1 + 1, 0, none⟩) (by simp; omega) (by simp <;> omega) (.slice (some ⟨w.heap.size + 1 + 1 + 1, 0, none⟩) ss.length ss.length)
  replace X2 := X2.set (by omega) 0 (.slice (some ⟨w.heap.size + 1 + 1 + 1, 0, none⟩) ss.length ss.length)
  refine (toIntS_any a2 c2 ms hm _ (HS2.out.step X0.old)).mono ?_
  rintro e w2 ⟨rfl, C', hC', hB'⟩
  have hs2' := Sl.of_box hB' hC'
  rw [size_set] at hs2'
  have s2 := Lib.hid hs2'
  have s1' := (s1.out.other (p := ⟨w.heap.size + 1 + 1, 0, none⟩) (by simp) (.slice (some ⟨w.heap.size + 1 + 1 + 1, 0, none⟩) ss.length ss.length)).step hB'.old
  have S1 := Lib.hid s1'
  have hsz2 : w.heap.size + 1 + 1 < w2.heap.size := by have := hB'.old.size; simp at this; omega
  replace X0 := X0.step hB'.old
  replace X1 := X1.step hB'.old
  replace X2 := X2.step hB'.old
  clear s1 s1' hs2' c1 d0 f0 hC' hB'
  have c2 := X0.cell 2 _ rfl
  have c3 := X0.cell 3 _ rfl
  have c4 := X0.cell 4 _ rfl
  have d0 := X2.cell 0 _ rfl
  have d1 := X2.cell 1 _ rfl
  have d2 := X2.cell 2 _ rfl
  have d3 := X2.cell 3 _ rfl
  have d4 := X2.cell 4 _ rfl
  have f1 := X2.frozen 1
  have f2 := X2.frozen 2
  have f3 := X2.frozen 3
  have f4 := X2.frozen 4
  have r0 := X1.cell 0 _ rfl
  have r1 := X1.cell 1 _ rfl
  have r2 := X1.cell 2 _ rfl
  have r3 := X1.cell 3 _ rfl
  have r4 := X1.cell 4 _ rfl
  have q0 := X1.frozen 0
  have q1 := X1.frozen 1
  have q2 := X1.frozen 2
  have q3 := X1.frozen 3
  have q4 := X1.frozen 4
  have hlt1 : w.heap.size + 1 < w1.heap.size := by omega
  clear hB X0 X2
  have H1 := Lib.hid X1.old
  have Y := X1.other (p := ⟨w.heap.size + 1 + 1, 1, none⟩) (by simp <;> omega) (by simp <;> omega) (.slice (some ⟨w1.heap.size, 0, none⟩) ms.length ms.length)
  replace Y := Y.other (p := ⟨w.heap.size + 1 + 1, 2, none⟩) (by simp <;> omega) (by simp <;> omega) (.int .i64 p)
  replace Y := Y.other (p := ⟨w.heap.size + 1 + 1, 3, none⟩) (by simp <;> omega) (by simp <;> omega) (.int .i64 q)
  replace Y := Y.other (p := ⟨w.heap.size + 1 + 1, 4, none⟩) (by simp <;> omega) (by simp <;> omega) (.int .i64 r)
  replace Y := Y.set (by omega) 0 (.slice (some ⟨w.heap.size + 1 + 1 + 1, 0, none⟩) ss.length ss.length)
  replace Y := Y.set (by omega) 1 (.slice (some ⟨w1.heap.size, 0, none⟩) ms.length ms.length)
  replace Y := Y.set (by omega) 2 (.int .i64 p)
  replace Y := Y.set (by omega) 3 (.int .i64 q)
  replace Y := Y.set (by omega) 4 (.int .i64 r)
  clear X1
  go_wp2
  have g0 := Y.cell 0 _ rfl
  have g1 := Y.cell 1 _ rfl
  have g2 := Y.cell 2 _ rfl
  have g3 := Y.cell 3 _ rfl
  have g4 := Y.cell 4 _ rfl
  clear Y r0 r1 r2 r3 r4 q0 q1 q2 q3 q4 c2 c3 c4 d0 d1 d2 d3 d4 f1 f2 f3 f4
  refine bodyPost_ret (v := .agg #[.slice (some ⟨w.heap.size + 1 + 1 + 1, 0, none⟩) ss.length ss.length, .slice (some ⟨w1.heap.size, 0, none⟩) ms.length ms.length, .int .i64 p, .int .i64 q, .int .i64 r]) (by simp [results, Try.f14, go_sem, g0, g1, g2, g3, g4]) rfl ⟨_, _, rfl, ?_, ?_, ?_⟩
  · repeat (refine Sl.other ?_ (by simp; try omega) _)
    exact S1.out
  · repeat (refine Sl.other ?_ (by simp; try omega) _)
    exact s2.out
  · repeat (refine Below.setCell ?_ (by simp; try omega) _)
    exact H1.out
end Go.Proofs.Ytcdkhacccbdmdaa
