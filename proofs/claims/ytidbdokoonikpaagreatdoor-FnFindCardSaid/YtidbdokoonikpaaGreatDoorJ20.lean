/- Merged texts: FndA, FndB. -/
import Derived.Test.YtidbdokoonikpaaGreatDoorJ18
import Derived.Deep.Cut
import Derived.Test.YtidbdokoonikpaaGreatDoorJ19
import Derived.Test.YtidbdokoonikpaaGreatDoorJ14
section
/- Walks: both ArchiveFind. -/
namespace Go.Proofs.YtidbdokoonikpaaGreatDoor
open Go.RowKit Flo
attribute [local go_sem] run_store_float run_store_complex

open Classical in
noncomputable def tdOf (s : List UInt8) : Option TD := if h : ∃ t : TD, t.Good ∧ t.text = s then some h.choose else none
theorem tdOf_good {t : TD} (h : t.Good) : tdOf t.text = some t := by
  have hx : ∃ u : TD, u.Good ∧ u.text = t.text := ⟨t, h, rfl⟩
  unfold tdOf
  rw [dif_pos hx]
  exact congrArg some (TD.text_inj hx.choose_spec.1 h hx.choose_spec.2)
theorem tdOf_none {s : List UInt8} (h : ∀ t : TD, t.Good → t.text ≠ s) : tdOf s = none := by
  unfold tdOf
  rw [dif_neg (fun ⟨t, h1, h2⟩ => h t h1 h2)]
/-- a text is read as a tile of that place -/
noncomputable def hitB (s : List UInt8) (cx cy : Nat) (d z : Int) : Bool := match tdOf s with
  | none => false
  | some t => (FloatKind.f32.format.order t.cx cx == some .eq) && (FloatKind.f32.format.order t.cy cy == some .eq) && ((t.d : Int) == d) && ((t.s : Int) == z)
/-- what ArchiveFind answers -/
def FindIs (L : List ByteArray) (cx cy : Nat) (d z : Int) (out : Int) : Prop :=
  (out = -1 ∧ ∀ (i : Nat) (s : ByteArray), L[i]? = some s → hitB s.data.toList cx cy d z = false) ∨ ∃ (k : Nat) (s : ByteArray), out = k ∧ L[k]? = some s ∧ hitB s.data.toList cx cy d z = true ∧ ∀ (i : Nat) (s : ByteArray), i < k → L[i]? = some s → hitB s.data.toList cx cy d z = false
theorem FindIs.one {L : List ByteArray} {cx cy : Nat} {d z : Int} {a b : Int} (h : FindIs L cx cy d z a) (k : FindIs L cx cy d z b) : a = b := by
  rcases h with ⟨rfl, h⟩ | ⟨i, s, rfl, h1, h2, h3⟩ <;> rcases k with ⟨rfl, k⟩ | ⟨j, t, rfl, k1, k2, k3⟩
  · rfl
  · rw [h j t k1] at k2; cases k2
  · rw [k i s h1] at h2; cases h2
  · rcases Nat.lt_trichotomy i j with c | c | c
    · rw [k3 i s c h1] at h2; cases h2
    · rw [c]
    · rw [h3 j t c k1] at k2; cases k2
theorem read_hit {w w' : World} {s : List UInt8} {e : Ending} (h : ReadRes w s e w') : ∃ (x y : Nat) (d z : Int) (a1 : Option Addr) (n1 c1 : Nat) (a2 : Option Addr) (n2 c2 : Nat) (ok : Bool), e = .returned (.tuple #[.agg #[.complex .f32 x y, .int .i64 d, .int .i64 z, .slice a1 n1 c1, .slice a2 n2 c2], .bool ok]) ∧
    (∀ cx cy D Z, hitB s cx cy D Z = (ok && ((FloatKind.f32.format.order x cx == some .eq) && (FloatKind.f32.format.order y cy == some .eq) && (d == D) && (z == Z)))) ∧ Below w.heap.size w w' := by
  obtain ⟨hb, ⟨hno, rfl⟩ | ⟨u, smv, mkv, hu, htx, rfl, hM⟩⟩ := h
  · refine ⟨0, 0, 0, 0, none, 0, 0, none, 0, 0, false, rfl, fun cx cy D Z => ?_, hb⟩
    unfold hitB
    rw [tdOf_none hno]
    rfl
  · obtain ⟨h1, h2, h3, h4, h5, h6, h7⟩ := TD.bd hu
    have hn : 0 < u.xs.length := by
      rw [h4]
      exact Nat.mul_pos (by omega) (by omega)
    obtain ⟨gs, cs, rfl, -, -⟩ := ownsRow_form hM.S hn
    obtain ⟨gm, cm, rfl, -, -⟩ := ownsRow_form hM.M hn
    refine ⟨_, _, _, _, _, _, _, _, _, _, true, rfl, fun cx cy D Z => ?_, hb⟩
    unfold hitB
    rw [← htx, tdOf_good hu]
    rfl
set_option maxRecDepth 100000 in
set_option maxHeartbeats 2000000 in
theorem specFind_is (a : Option Addr) (c : Nat) (L : List ByteArray) (hL : L.length ≤ 1048576) (hz : ∀ s, s ∈ L → s.size ≤ 1048576) (cx cy : Nat) (D Z : Int) (w : World) (hs : Sl w a (L.map Value.string)) :
    Calls Tryz.prog 17 #[.slice a L.length c, .complex .f32 cx cy, .int .i64 D, .int .i64 Z] w fun e w' => (∃ out, e = .returned (.int .i64 out) ∧ FindIs L cx cy D Z out) ∧ Below w.heap.size w w' := by
  obtain ⟨n, hn⟩ : ∃ n, L.length = n := ⟨_, rfl⟩
  have HS := Lib.hid hs
  have HN := Lib.hid hn
  have HZ := Lib.hid hz
  rw [hn] at hL ⊢
  clear hs hn hz
  go_enter Tryz.func17, Tryz.ntmps17
  go_wp2
  go_loopw [9] (fun i wr => ∃ k : Nat, k ≤ n ∧ i = .int .i64 k ∧ Hid (Below w.heap.size w wr) ∧ Hid (∀ (i : Nat) (s : ByteArray), i < k → L[i]? = some s → hitB s.data.toList cx cy D Z = false)) (fun i _ => (n - intOf i).toNat)
  case atStart => exact ⟨0, by omega, rfl, Below.refl _ _, fun i s h => by omega⟩
  case round =>
    obtain ⟨k, hk, rfl, HB, HF⟩ := hrel
    by_cases hlt : k < n
    · obtain ⟨tx, htx⟩ : ∃ s, L[k]? = some s := ⟨_, List.getElem?_eq_getElem (by have := HN.out; omega)⟩
      have hv : (L.map Value.string)[k]? = some (.string tx) := by rw [List.getElem?_map, htx]; rfl
      obtain ⟨b1, o1, rfl, hc1⟩ := (HS.out.step HB.out).at hv
      have HT := Lib.hid htx
      have CR := Lib.hid (fun W => specRead_any tx (HZ.out _ (List.mem_of_getElem? htx)) W)
      clear htx hv
      go_wp2_with fail
      with_reducible refine (CR.out _).mono ?_
      intro e w2 hR
      obtain ⟨x, y, d, z, a1, n1, c1, a2, n2, c2, ok, rfl, hH, hd⟩ := read_hit hR
      have HH := Lib.hid (hH cx cy D Z)
      have X := (Box.new w2 #[.complex .f32 x y, .int .i64 d, .int .i64 z, .slice a1 n1 c1, .slice a2 n2 c2] 27).up (HB.out.trans (hd.mono HB.out.size))
      have HX := Lib.hid X.old
      obtain ⟨r0, r1, r2, r3, r4⟩ := X.cells5
      clear hR hH hd X hc1 CR
      obtain ⟨p1, o1⟩ : ∃ p, (FloatKind.f32.format.order x cx == some .eq) = p := ⟨_, rfl⟩
      obtain ⟨p2, o2⟩ : ∃ p, (FloatKind.f32.format.order y cy == some .eq) = p := ⟨_, rfl⟩
      obtain ⟨p3, o3⟩ : ∃ p, (d == D) = p := ⟨_, rfl⟩
      obtain ⟨p4, o4⟩ : ∃ p, (z == Z) = p := ⟨_, rfl⟩
      have HH2 := HH.out
      rw [o1, o2, o3, o4] at HH2
      have HH3 := Lib.hid HH2
      clear HH HH2
      by_cases hh : (ok && (p1 && p2 && p3 && p4)) = true
      · simp only [Bool.and_eq_true] at hh
        obtain ⟨rfl, ⟨⟨rfl, rfl⟩, rfl⟩, rfl⟩ := hh
        go_wp2
        go_ret
        exact ⟨⟨_, rfl, .inr ⟨k, tx, rfl, HT.out, HH3.out, HF.out⟩⟩, HX.out⟩
      · have HNo : Hid (∀ (i : Nat) (s : ByteArray), i < k + 1 → L[i]? = some s → hitB s.data.toList cx cy D Z = false) := fun i s hi hs => by
          by_cases e : i = k
          · subst e
            obtain rfl : tx = s := Option.some.inj (HT.out.symm.trans hs)
            rw [HH3.out]
            simpa using hh
          · exact HF.out i s (by omega) hs
        clear HH3 HT HF
        cases ok <;> cases p1 <;> cases p2 <;> cases p3 <;> cases p4 <;> first
          | exact absurd rfl hh
          | (clear hh
             go_wp2
             go_roundw
             case rel => exact ⟨k + 1, by omega, by go_num, HX, HNo⟩
             case measure => simp [intOf]; omega)
    · obtain rfl : k = n := by omega
      have HE : Hid (∀ (i : Nat) (s : ByteArray), L[i]? = some s → hitB s.data.toList cx cy D Z = false) := fun i s h => HF.out i s (by have := (List.getElem?_eq_some_iff.1 h).1; rw [HN.out] at this; exact this) h
      go_wp2
      go_ret
      exact ⟨⟨_, rfl, .inl ⟨rfl, HE.out⟩⟩, HB.out⟩
set_option maxRecDepth 100000 in
set_option maxHeartbeats 2000000 in
theorem implFind_is (a : Option Addr) (c : Nat) (L : List ByteArray) (hL : L.length ≤ 1048576) (hz : ∀ s, s ∈ L → s.size ≤ 1048576) (cx cy : Nat) (D Z : Int) (w : World) (hV : VarsT w) (hs : Sl w a (L.map Value.string)) :
    Calls Tryz.prog 16 #[.slice a L.length c, .complex .f32 cx cy, .int .i64 D, .int .i64 Z] w fun e w' => (∃ out, e = .returned (.int .i64 out) ∧ FindIs L cx cy D Z out) ∧ Below w.heap.size w w' := by
  obtain ⟨n, hn⟩ : ∃ n, L.length = n := ⟨_, rfl⟩
  have HS := Lib.hid hs
  have HVV := Lib.hid hV
  have HN := Lib.hid hn
  have HZ := Lib.hid hz
  rw [hn] at hL ⊢
  clear hs hn hz hV
  go_enter Tryz.func16, Tryz.ntmps16
  go_wp2
  go_loopw [9, 10, 15] (fun _ _ i wr => ∃ k : Nat, k ≤ n ∧ i = .int .i64 k ∧ Hid (Below w.heap.size w wr) ∧ Hid (∀ (i : Nat) (s : ByteArray), i < k → L[i]? = some s → hitB s.data.toList cx cy D Z = false)) (fun _ _ i _ => (n - intOf i).toNat)
  case atStart => exact ⟨0, by omega, rfl, Below.refl _ _, fun i s h => by omega⟩
  case round =>
    obtain ⟨k, hk, rfl, HB, HF⟩ := hrel
    by_cases hlt : k < n
    · obtain ⟨tx, htx⟩ : ∃ s, L[k]? = some s := ⟨_, List.getElem?_eq_getElem (by have := HN.out; omega)⟩
      have hv : (L.map Value.string)[k]? = some (.string tx) := by rw [List.getElem?_map, htx]; rfl
      obtain ⟨b1, o1, rfl, hc1⟩ := (HS.out.step HB.out).at hv
      have HT := Lib.hid htx
      have CR := Lib.hid (fun W (k : Below w.heap.size w W) => implRead_any tx (HZ.out _ (List.mem_of_getElem? htx)) W (HVV.out.step k))
      clear htx hv
      go_wp2_with fail
      with_reducible refine (CR.out _ HB.out).mono ?_
      intro e w2 hR
      obtain ⟨x, y, d, z, a1, n1, c1, a2, n2, c2, ok, rfl, hH, hd⟩ := read_hit hR
      have HH := Lib.hid (hH cx cy D Z)
      have X := (Box.new w2 #[.complex .f32 x y, .int .i64 d, .int .i64 z, .slice a1 n1 c1, .slice a2 n2 c2] 27).up (HB.out.trans (hd.mono HB.out.size))
      have HX := Lib.hid X.old
      obtain ⟨r0, r1, r2, r3, r4⟩ := X.cells5
      clear hR hH hd X hc1 CR
      obtain ⟨p1, o1⟩ : ∃ p, (FloatKind.f32.format.order x cx == some .eq) = p := ⟨_, rfl⟩
      obtain ⟨p2, o2⟩ : ∃ p, (FloatKind.f32.format.order y cy == some .eq) = p := ⟨_, rfl⟩
      obtain ⟨p3, o3⟩ : ∃ p, (d == D) = p := ⟨_, rfl⟩
      obtain ⟨p4, o4⟩ : ∃ p, (z == Z) = p := ⟨_, rfl⟩
      have HH2 := HH.out
      rw [o1, o2, o3, o4] at HH2
      have HH3 := Lib.hid HH2
      clear HH HH2
      by_cases hh : (ok && (p1 && p2 && p3 && p4)) = true
      · simp only [Bool.and_eq_true] at hh
        obtain ⟨rfl, ⟨⟨rfl, rfl⟩, rfl⟩, rfl⟩ := hh
        go_wp2
        go_ret
        exact ⟨⟨_, rfl, .inr ⟨k, tx, rfl, HT.out, HH3.out, HF.out⟩⟩, HX.out⟩
      · have HNo : Hid (∀ (i : Nat) (s : ByteArray), i < k + 1 → L[i]? = some s → hitB s.data.toList cx cy D Z = false) := fun i s hi hs => by
          by_cases e : i = k
          · subst e
            obtain rfl : tx = s := Option.some.inj (HT.out.symm.trans hs)
            rw [HH3.out]
            simpa using hh
          · exact HF.out i s (by omega) hs
        clear HH3 HT HF
        cases ok <;> cases p1 <;> cases p2 <;> cases p3 <;> cases p4 <;> first
          | exact absurd rfl hh
          | (clear hh
             go_wp2
             go_roundw
             case rel => exact ⟨k + 1, by omega, by go_num, HX, HNo⟩
             case measure => simp [intOf]; omega)
    · obtain rfl : k = n := by omega
      have HE : Hid (∀ (i : Nat) (s : ByteArray), L[i]? = some s → hitB s.data.toList cx cy D Z = false) := fun i s h => HF.out i s (by have := (List.getElem?_eq_some_iff.1 h).1; rw [HN.out] at this; exact this) h
      go_wp2
      go_ret
      exact ⟨⟨_, rfl, .inl ⟨rfl, HE.out⟩⟩, HB.out⟩
end Go.Proofs.YtidbdokoonikpaaGreatDoor
end

section
/- Walks: the draw of a list of texts and a place. -/
namespace Go.Proofs.YtidbdokoonikpaaGreatDoor
open Go.RowKit Flo
attribute [local go_sem] run_store_float run_store_complex

theorem Rd.grown {w0 : World} {b p : Nat} {W W' : World} (h : Rd w0 b p W) {row : Option Nat} (hg : W.grownBy W' row) (hne : row ≠ some b) (hrow : ∀ k, row = some k → w0.heap.size ≤ k) : Rd w0 b p W' := by
  obtain ⟨a, c, bs, h, r⟩ := h; exact ⟨a, c, bs, h.grown hg hne hrow, r⟩
def DrawnFind (w : World) (e : Ending) (w' : World) : Prop :=
  (∃ (g cap : Nat) (L : List ByteArray) (cx cy : Nat) (D Z : Int), e = .returned (.tuple #[.slice (some ⟨g, 0, none⟩) L.length cap, .complex .f32 cx cy, .int .i64 D, .int .i64 Z]) ∧ L.length ≤ 3 ∧ (∀ s, s ∈ L → s.size ≤ 2000) ∧ Sl w' (some ⟨g, 0, none⟩) (L.map Value.string)) ∧ Below w.heap.size w w'
set_option maxRecDepth 100000 in
set_option maxHeartbeats 4000000 in
theorem drawArchiveFind_any (a : Option Addr) (c : Nat) (bs : List UInt8) (hn : bs.length ≤ 1048576) (hc : bs.length ≤ c) (w : World) (hs : Sl w a (bs.map byteV)) :
    Calls Tryz.prog 15 #[.slice a bs.length c] w (DrawnFind w) := by
  obtain ⟨iS, hiS, hzS0, hzS1, hzS2⟩ := info_parts infoS
  have H := Lib.hid (open_any a c bs hn hc _ hs)
  clear hs
  go_enter Tryz.func15, Tryz.ntmps15
  go_wp2_with fail
  refine H.out.mono ?_
  rintro e w1 ⟨b, rfl, -, hR⟩
  have hbw : w.heap.size ≤ b ∧ b < w1.heap.size := hR.ownb
  have h0 := World.ownsRow_lit (e := 9) (size := 1) (base := w1.heap.size) w1 #[] 0 (by simp) (by decide) rfl
  have HR := Lib.hid (hR.step ((Below.refl _ _).alloc (Nat.le_refl _) (.cells #[] 9)))
  have H0 := Lib.hid h0
  have HP := Lib.hid (pick_any w b 0 4 (by omega) (by omega) _ HR.out)
  clear hR h0 H
  go_wp2_with fail
  refine HP.out.mono ?_
  rintro e w2 ⟨⟨n, rfl, n0, n1⟩, hR, hO⟩
  obtain ⟨n, rfl⟩ := Int.eq_ofNat_of_zero_le n0
  have hn4 : n < 4 := by omega
  have HR2 := Lib.hid hR
  have hs2 : w1.heap.size ≤ w2.heap.size := by have := hO.size; simp at this; omega
  have H2 := Lib.hid (ownsRow_only H0.out hO hbw.2)
  clear hR hO n0 n1 HR H0 HP
  go_wp2
  go_loopw [7, 9] (fun o i wr => ∃ (k g cap p : Nat) (L : List ByteArray), k ≤ n ∧ i = .int .i64 k ∧ o = .slice (some ⟨g, 0, none⟩) k cap ∧ L.length = k ∧ p ≤ 1 + 30 * k ∧ w1.heap.size ≤ wr.heap.size ∧ Hid (∀ s, s ∈ L → s.size ≤ 2000) ∧ Hid (wr.ownsRow w1.heap.size 9 1 (.slice (some ⟨g, 0, none⟩) k cap) k (L.map Value.string)) ∧ Hid (Rd w b p wr)) (fun _ i _ => (n - intOf i).toNat)
  case atStart => exact ⟨0, _, _, 1, [], by omega, rfl, rfl, rfl, by omega, hs2, (fun s h => by cases h), H2, HR2⟩
  case round =>
    obtain ⟨k, g, cap, p, L, hk, rfl, rfl, hL, hp, hsz, HZ, HO, HR⟩ := hrel
    clear HR2 H2
    by_cases hlt : k < n
    · go_wp2_with fail
      refine (l92Text_any w b p (by omega) _ HR.out).mono ?_
      rintro e w3 ⟨⟨s, rfl, hs2⟩, ⟨p', hp', hR3⟩, hO3⟩
      have HO3 := Lib.hid (ownsRow_only HO.out hO3 hbw.2)
      have HR3 := Lib.hid hR3
      have hsz3 : w1.heap.size ≤ w3.heap.size := by have := hO3.size; omega
      have hg := own_ge HO3.out
      clear hR3 hO3 HR HO
      go_wp2_with (at_builtin; refine wpList_append_lies _ rfl _ _ _ rfl w1.heap.size 9 iS _ 1 16 Tryz.underlying37 hiS hzS0 hzS1 hzS2 rfl (by omega) _ k (L.map Value.string) rfl (HO3.out.alloc _) ⟨w3.heap.size, 0, none⟩ 1 1 [.string s] rfl rfl (World.news_of_block (cs := #[.string s]) (t := 9) (fr := (0, 0)) (heap_alloc_new w3 _)) (by simp [Value.oneCell']) (by omega) (by unfold maxLen; omega) (by omega) (by simp; omega) (w3.heap.size + 1) (by simp) ?_; intro g8 c8 w8 hown hgrow _ _; have HR8 := Lib.hid ((HR3.out.step ((Below.refl _ _).alloc (Nat.le_refl _) (.cells #[.string s] 9))).grown (row := some g) hgrow (fun e => by injection e with e; omega) (fun q hq => by injection hq with hq; omega)); have HO8 := Lib.hid hown; have hsz8 : w1.heap.size ≤ w8.heap.size := (by have := hgrow.size; simp at this; omega); clear hown hgrow)
      have HZ8 : Hid (∀ t, t ∈ L ++ [s] → t.size ≤ 2000) := fun t ht => by
        rcases List.mem_append.1 ht with h | h
        · exact HZ.out t h
        · rw [List.mem_singleton] at h
          rw [h]; exact hs2
      go_roundw
      case rel => exact ⟨k + 1, g8, c8, p', L ++ [s], by omega, by go_num, by go_num, by simp [hL], by omega, hsz8, HZ8, Lib.hid (by have := HO8.out; rw [List.map_append]; simpa using this), HR8⟩
      case measure => simp [intOf]; omega
    · obtain rfl : k = n := by omega
      subst hL
      have HL3 : L.length ≤ 3 := by omega
      by_cases hz : L.length = 0
      · have hz0 : decide ((0 : Int) < L.length) = false := by simp [hz]
        have hz1 : ¬ (0 : Int) < L.length := by omega
        clear hz
        go_wp2_with fail
        refine (place_any w b (p) (by omega) _ HR.out).mono ?_
        rintro e w9 ⟨⟨x', y', d', s', m', rfl, -, -, -, -⟩, ⟨p9, -, hR9⟩, hO9⟩
        have HS9 := Lib.hid (sl_of_own (ownsRow_only HO.out hO9 hbw.2))
        have HB9 := Lib.hid hR9.below
        clear hR9 hO9
        go_wp2
        exact bodyPost_ret (v := .tuple #[.slice (some ⟨g, 0, none⟩) L.length cap, .complex .f32 x' y', .int .i64 d', .int .i64 s']) (by simp [results, Tryz.f15, go_sem]) rfl ⟨⟨g, cap, L, x', y', d', s', rfl, by omega, HZ.out, HS9.out⟩, HB9.out⟩
      · have hz0 : decide ((0 : Int) < L.length) = true := by simp; omega
        have hz1 : (0 : Int) < L.length := by omega
        have HP := Lib.hid (pick_any w b p 3 (by omega) (by omega) _ HR.out)
        go_wp2_with fail
        refine HP.out.mono ?_
        rintro e w4 ⟨⟨q, rfl, q0, q1⟩, hR4, hO4⟩
        have HO4 := Lib.hid (ownsRow_only HO.out hO4 hbw.2)
        have HR4 := Lib.hid hR4
        clear hR4 hO4 HP HR HO
        by_cases hq : q = 0
        · subst hq
          go_wp2_with fail
          refine (place_any w b (p + 1) (by omega) _ HR4.out).mono ?_
          rintro e w9 ⟨⟨x', y', d', s', m', rfl, -, -, -, -⟩, ⟨p9, -, hR9⟩, hO9⟩
          have HS9 := Lib.hid (sl_of_own (ownsRow_only HO4.out hO9 hbw.2))
          have HB9 := Lib.hid hR9.below
          clear hR9 hO9
          go_wp2
          exact bodyPost_ret (v := .tuple #[.slice (some ⟨g, 0, none⟩) L.length cap, .complex .f32 x' y', .int .i64 d', .int .i64 s']) (by simp [results, Tryz.f15, go_sem]) rfl ⟨⟨g, cap, L, x', y', d', s', rfl, by omega, HZ.out, HS9.out⟩, HB9.out⟩
        · have hq1 : (0 : Int) < q := by omega
          have HP := Lib.hid (pick_any w b (p + 1) L.length (by omega) (by omega) _ HR4.out)
          go_wp2_with fail
          refine HP.out.mono ?_
          rintro e w5 ⟨⟨r, rfl, r0, r1⟩, hR5, hO5⟩
          obtain ⟨r, rfl⟩ := Int.eq_ofNat_of_zero_le r0
          have hrL : r < L.length := by omega
          have hO5' := ownsRow_only HO4.out hO5 hbw.2
          have HO5 := Lib.hid hO5'
          have HR5 := Lib.hid hR5
          obtain ⟨tx, htx⟩ : ∃ s, L[r]? = some s := ⟨_, List.getElem?_eq_getElem hrL⟩
          have hv : (L.map Value.string)[r]? = some (.string tx) := by rw [List.getElem?_map, htx]; rfl
          have hts : tx.size ≤ 2000 := HZ.out _ (List.mem_of_getElem? htx)
          obtain ⟨b1, o1, he, hc1⟩ := (sl_of_own hO5').at hv
          obtain ⟨rfl, rfl⟩ : g = b1 ∧ 0 = o1 := by injection he with he; injection he with h3 h4 _; exact ⟨h3, h4⟩
          rw [Nat.zero_add] at hc1
          have CR := Lib.hid (specRead_any tx (by omega) w5)
          clear hR5 hO5 hO5' hv htx he HR4 HO4 HP r0 r1
          go_wp2_with fail
          with_reducible refine CR.out.mono ?_
          intro e w6 hR
          obtain ⟨x, y, d, z, a1, n1, c1, a2, n2, c2, ok, rfl, -, hd⟩ := read_hit hR
          have X := (Box.new w6 #[.complex .f32 x y, .int .i64 d, .int .i64 z, .slice a1 n1 c1, .slice a2 n2 c2] 27).up (HR5.out.step hd).below
          obtain ⟨r0, r1, r2, r3, r4⟩ := X.cells5
          have k6 := (Below.refl w6.heap.size w6).alloc (Nat.le_refl _) (.cells #[.complex .f32 x y, .int .i64 d, .int .i64 z, .slice a1 n1 c1, .slice a2 n2 c2] 27)
          have HR6 := Lib.hid ((HR5.out.step hd).step k6)
          have HO6 := Lib.hid (ownsRow_step (ownsRow_step HO5.out hd) k6)
          clear hR hd X k6 hc1 CR HR5 HO5
          cases ok with
          | true =>
            have HS6 := Lib.hid (sl_of_own HO6.out)
            have HB6 := Lib.hid HR6.out.below
            go_upto_region 11 with fail
            go_quiet (fail)
            have HS7 := Lib.hid (HS6.out.drw (Drw.refl _ |>.drewN nq))
            have HB7 := Lib.hid (HB6.out.trans (((Drw.refl _).drewN nq).below _ |>.mono HB6.out.size))
            go_wp2
            exact bodyPost_ret (v := .tuple #[.slice (some ⟨g, 0, none⟩) L.length cap, .complex .f32 x y, .int .i64 d, .int .i64 z]) (by simp [results, Tryz.f15, go_sem]) rfl ⟨⟨g, cap, L, x, y, d, z, rfl, by omega, HZ.out, HS7.out⟩, HB7.out⟩
          | false =>
            go_wp2_with fail
            refine (place_any w b (p + 1 + 1) (by omega) _ HR6.out).mono ?_
            rintro e w9 ⟨⟨x', y', d', s', m', rfl, -, -, -, -⟩, ⟨p9, -, hR9⟩, hO9⟩
            have HS9 := Lib.hid (sl_of_own (ownsRow_only HO6.out hO9 hbw.2))
            have HB9 := Lib.hid hR9.below
            clear hR9 hO9
            go_wp2
            exact bodyPost_ret (v := .tuple #[.slice (some ⟨g, 0, none⟩) L.length cap, .complex .f32 x' y', .int .i64 d', .int .i64 s']) (by simp [results, Tryz.f15, go_sem]) rfl ⟨⟨g, cap, L, x', y', d', s', rfl, by omega, HZ.out, HS9.out⟩, HB9.out⟩
end Go.Proofs.YtidbdokoonikpaaGreatDoor
end
