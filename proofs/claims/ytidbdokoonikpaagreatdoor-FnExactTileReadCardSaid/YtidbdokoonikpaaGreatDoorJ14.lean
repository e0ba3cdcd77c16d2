/- Merged texts: TrdP, TrdT, TrdQ, TrdS, TrdD, Strings. -/
import Derived.Test.YtidbdokoonikpaaGreatDoorJ12
import Derived.Test.YtidbdokoonikpaaGreatDoorJ9
import Derived.Test.YtidbdokoonikpaaGreatDoorJ11
import Derived.Test.YtidbdokoonikpaaGreatDoorJ6
import Derived.Deep.AppendLies
import Derived.Lib.Strings
import Derived.Test.YtidbdokoonikpaaGreatDoorRows
import Derived.Test.YtidbdokoonikpaaGreatDoorJ1
import Derived.Lib.Bytealg
section
/- Plain: the pieces of a text; what texts of tiles are. -/
namespace Go.Proofs.YtidbdokoonikpaaGreatDoor

/-- a text cut at its spaces -/
def splitL : List UInt8 → List (List UInt8)
  | [] => [[]]
  | c :: r => if c = 32 then [] :: splitL r else (c :: (splitL r).headD []) :: (splitL r).tail
theorem splitL_ne (l : List UInt8) : splitL l ≠ [] := by
  cases l with
  | nil => simp [splitL]
  | cons c r =>
    unfold splitL
    split <;> simp
theorem splitL_hit : ∀ (p r : List UInt8), (∀ c, c ∈ p → c ≠ 32) → splitL (p ++ 32 :: r) = p :: splitL r
  | [], r, _ => by simp [splitL]
  | c :: p, r, h => by
    have hc : c ≠ 32 := h c (by simp)
    have ih := splitL_hit p r (fun d hd => h d (by simp [hd]))
    show splitL (c :: (p ++ 32 :: r)) = _
    rw [splitL, if_neg hc, ih]
    rfl
theorem splitL_one : ∀ (p : List UInt8), (∀ c, c ∈ p → c ≠ 32) → splitL p = [p]
  | [], _ => rfl
  | c :: p, h => by
    have hc : c ≠ 32 := h c (by simp)
    rw [splitL, if_neg hc, splitL_one p (fun d hd => h d (by simp [hd]))]
    rfl
theorem splitL_len (l : List UInt8) : (splitL l).length ≤ l.length + 1 := by
  induction l with
  | nil => simp [splitL]
  | cons c r ih =>
    have hne := splitL_ne r
    unfold splitL
    split
    · simp; omega
    · simp
      omega
theorem splitL_pos (l : List UInt8) : 0 < (splitL l).length := List.length_pos_iff.2 (splitL_ne l)
theorem splitL_mem_len (l : List UInt8) : ∀ p, p ∈ splitL l → p.length ≤ l.length := by
  induction l with
  | nil => intro p hp; simp [splitL] at hp; simp [hp]
  | cons c r ih =>
    intro p hp
    have hne := splitL_ne r
    obtain ⟨q, qs, hq⟩ : ∃ q qs, splitL r = q :: qs := by
      cases h : splitL r with
      | nil => exact absurd h hne
      | cons q qs => exact ⟨q, qs, rfl⟩
    rw [hq] at ih
    unfold splitL at hp
    split at hp
    · rcases List.mem_cons.1 hp with rfl | hp
      · simp
      · rw [hq] at hp; have := ih p hp; simp; omega
    · rw [hq] at hp
      rcases List.mem_cons.1 hp with rfl | hp
      · have := ih q (by simp); simp; exact this
      · have := ih p (by simp only [List.tail_cons] at hp; simp [hp]); simp; omega
theorem splitL_getD_len (l : List UInt8) (j : Nat) : ((splitL l).getD j []).length ≤ l.length := by
  by_cases h : j < (splitL l).length
  · rw [List.getD_eq_getElem?_getD, List.getElem?_eq_getElem h]
    exact splitL_mem_len l _ (List.getElem_mem _)
  · rw [List.getD_eq_getElem?_getD, List.getElem?_eq_none (by omega)]
    simp
theorem splitL_join : ∀ (ps : List (List UInt8)) (p : List UInt8), (∀ c, c ∈ p → c ≠ 32) → (∀ q, q ∈ ps → ∀ c, c ∈ q → c ≠ 32) → splitL (p ++ (ps.map (fun q => 32 :: q)).flatten) = p :: ps
  | [], p, h, _ => by simpa using splitL_one p h
  | q :: ps, p, h, hs => by
    rw [List.map_cons, List.flatten_cons, List.cons_append, splitL_hit p _ h, splitL_join ps q (hs q (by simp)) (fun r hr => hs r (by simp [hr]))]

theorem hexD_ne (d : Nat) (h : d < 16) : hexD d ≠ 32 := by
  have : ∀ d : Fin 16, hexD d ≠ 32 := by decide
  exact this ⟨d, h⟩
theorem wordTo_ne (n : Nat) : ∀ j c, c ∈ wordTo n j → c ≠ 32
  | 0, c, h => by simp [wordTo] at h
  | j + 1, c, h => by
    rw [wordTo, List.mem_append] at h
    rcases h with h | h
    · exact wordTo_ne n j c h
    · simp at h; rw [h]; exact hexD_ne _ (hexAt_lt n j)
theorem wordL_ne (n : Nat) : ∀ c, c ∈ wordL n → c ≠ 32 := wordTo_ne n 8
theorem decS_ne {n : Nat} (h : n ≤ 10) : ∀ c, c ∈ (decS n).data.toList → c ≠ 32 := by
  have : ∀ k : Fin 11, ∀ c, c ∈ (decS k.val).data.toList → c ≠ 32 := by decide
  exact this ⟨n, by omega⟩
theorem decS_inj {n m : Nat} (hn : n ≤ 10) (hm : m ≤ 10) (h : (decS n).data.toList = (decS m).data.toList) : n = m := by
  have : ∀ k j : Fin 11, (decS k.val).data.toList = (decS j.val).data.toList → k.val = j.val := by decide
  exact this ⟨n, by omega⟩ ⟨m, by omega⟩ h
theorem sgnC_ne (y : Int) : sgnC y ≠ 32 := by
  unfold sgnC
  split
  · decide
  · split <;> decide
theorem sgnC_inj {y z : Int} (hy : -1 ≤ y ∧ y ≤ 1) (hz : -1 ≤ z ∧ z ≤ 1) (h : sgnC y = sgnC z) : y = z := by
  rcases (by omega : y = -1 ∨ y = 0 ∨ y = 1) with rfl | rfl | rfl <;> rcases (by omega : z = -1 ∨ z = 0 ∨ z = 1) with rfl | rfl | rfl <;> first | rfl | (exact absurd h (by decide))

/-- a tile's data -/
structure TD where
  cx : Nat
  cy : Nat
  d : Nat
  s : Nat
  xs : List Nat
  ys : List Int
def TD.text (t : TD) : List UInt8 := textT t.cx t.cy t.d t.s t.xs t.ys (sum0 t.xs t.ys)
structure TD.Good (t : TD) : Prop where
  bx : t.cx < 4294967296
  by1 : t.cy < 4294967296
  pl : placeB t.cx t.cy t.d t.s = true
  wl : wellB t.s t.xs.length t.ys = true
  hx : ∀ x, x ∈ t.xs → x < 4294967296
def cellP (p : Nat × Int) : List UInt8 := wordL p.1 ++ [sgnC p.2]
theorem cellP_len (p : Nat × Int) : (cellP p).length = 9 := by unfold cellP; rw [List.length_append, wordL_length]; rfl
theorem cellP_ne (p : Nat × Int) : ∀ c, c ∈ cellP p → c ≠ 32 := by
  intro c h
  rcases List.mem_append.1 h with h | h
  · exact wordL_ne _ c h
  · simp at h; rw [h]; exact sgnC_ne _
def tileW : List UInt8 := [116, 105, 108, 101]
/-- the pieces of a tile's text -/
def TD.rest (t : TD) : List (List UInt8) := [wordL t.cx, wordL t.cy, (decS t.d).data.toList, (decS t.s).data.toList] ++ (t.xs.zip t.ys).map cellP ++ [wordL (sum0 t.xs t.ys)]
theorem TD.bd {t : TD} (h : t.Good) : t.d ≤ 10 ∧ 1 ≤ t.s ∧ t.s ≤ 8 ∧ t.xs.length = t.s * t.s ∧ t.ys.length = t.xs.length ∧ (∀ y, y ∈ t.ys → -1 ≤ y ∧ y ≤ 1) ∧ t.xs.length ≤ 64 := by
  obtain ⟨h1, h2, h3, h4⟩ := placeB_bd h.pl
  obtain ⟨g1, g2, g3⟩ := wellB_all h.wl
  have h8 : t.s * t.s ≤ 8 * 8 := Nat.mul_le_mul (by omega) (by omega)
  have e : t.xs.length = t.s * t.s := by exact_mod_cast g1
  exact ⟨by omega, by omega, by omega, e, g2, g3, by omega⟩
theorem TD.text_eq (t : TD) (hl : t.ys.length = t.xs.length) : t.text = tileW ++ (t.rest.map (fun q => 32 :: q)).flatten := by
  unfold TD.text textT headT cellsT TD.rest tileW
  rw [List.take_of_length_le (by rw [List.length_zip]; omega)]
  have e : (t.xs.zip t.ys).map cellT = ((t.xs.zip t.ys).map cellP).map (fun q => 32 :: q) := by
    rw [List.map_map]; rfl
  rw [e]
  simp [List.map_append, List.flatten_append]
theorem TD.split {t : TD} (h : t.Good) : splitL t.text = tileW :: t.rest := by
  obtain ⟨h1, h2, h3, h4, h5, h6, h7⟩ := TD.bd h
  rw [t.text_eq h5]
  refine splitL_join _ _ (by decide) ?_
  intro q hq
  unfold TD.rest at hq
  simp only [List.mem_append, List.mem_cons, List.not_mem_nil, or_false, List.mem_map] at hq
  rcases hq with ((rfl | rfl | rfl | rfl) | ⟨p, _, rfl⟩) | rfl
  · exact wordL_ne _
  · exact wordL_ne _
  · exact decS_ne (by omega)
  · exact decS_ne (by omega)
  · exact cellP_ne p
  · exact wordL_ne _
theorem TD.rest_len {t : TD} (h : t.Good) : t.rest.length = 5 + t.xs.length := by
  obtain ⟨h1, h2, h3, h4, h5, h6, h7⟩ := TD.bd h
  unfold TD.rest
  simp [h5]
  omega
theorem TD.cell (t : TD) {j : Nat} (hj : j < t.xs.length) (hj2 : j < t.ys.length) : (tileW :: t.rest)[5 + j]? = some (wordL (t.xs[j]'hj) ++ [sgnC (t.ys[j]'hj2)]) := by
  rw [show 5 + j = (4 + j) + 1 by omega, List.getElem?_cons_succ]
  unfold TD.rest
  rw [List.append_assoc, List.getElem?_append_right (by simp), List.getElem?_append_left (by simp; omega)]
  have hz : j < (t.xs.zip t.ys).length := by rw [List.length_zip]; omega
  rw [show 4 + j - [wordL t.cx, wordL t.cy, (decS t.d).data.toList, (decS t.s).data.toList].length = j by simp, List.getElem?_map, List.getElem?_eq_getElem hz, List.getElem_zip]
  rfl
theorem TD.text_len {t : TD} (h : t.Good) : t.text.length ≤ 700 := by
  obtain ⟨h1, h2, h3, h4, h5, h6, h7⟩ := TD.bd h
  unfold TD.text textT headT
  have e1 := decS_size t.d
  have e2 := decS_size t.s
  have e3 : (decS t.d).data.toList.length ≤ 2 := by rw [len_eq]; exact e1
  have e4 : (decS t.s).data.toList.length ≤ 2 := by rw [len_eq]; exact e2
  have e5 := cellsT_len t.xs t.ys t.xs.length (Nat.le_refl _) (by omega)
  simp only [List.length_append, wordL_length, List.length_cons, List.length_nil, e5]
  omega
theorem cellP_inj {p q : Nat × Int} (h1 : p.1 < 4294967296) (h2 : q.1 < 4294967296) (h3 : -1 ≤ p.2 ∧ p.2 ≤ 1) (h4 : -1 ≤ q.2 ∧ q.2 ≤ 1) (h : cellP p = cellP q) : p = q := by
  obtain ⟨e1, e2⟩ := List.append_inj h (by rw [wordL_length, wordL_length])
  have e3 := wordL_inj h1 h2 e1
  have e4 := sgnC_inj h3 h4 (by simpa using e2)
  exact Prod.ext e3 e4
theorem map_inj_on {α β : Type} {f : α → β} : ∀ {l m : List α}, (∀ x, x ∈ l → ∀ y, y ∈ m → f x = f y → x = y) → l.map f = m.map f → l = m
  | [], [], _, _ => rfl
  | [], _ :: _, _, h => by simp at h
  | _ :: _, [], _, h => by simp at h
  | x :: l, y :: m, hf, h => by
    simp only [List.map_cons, List.cons.injEq] at h
    rw [hf x (by simp) y (by simp) h.1, map_inj_on (fun a ha b hb => hf a (by simp [ha]) b (by simp [hb])) h.2]
/-- texts tell their tiles -/
theorem TD.text_inj {t u : TD} (ht : t.Good) (hu : u.Good) (h : t.text = u.text) : t = u := by
  have e := congrArg splitL h
  rw [TD.split ht, TD.split hu] at e
  obtain ⟨h1, h2, h3, h4, h5, h6, h7⟩ := TD.bd ht
  obtain ⟨k1, k2, k3, k4, k5, k6, k7⟩ := TD.bd hu
  have e2 : t.rest = u.rest := by simpa using e
  unfold TD.rest at e2
  simp only [List.cons_append, List.nil_append, List.cons.injEq] at e2
  obtain ⟨a1, a2, a3, a4, a5⟩ := e2
  have b1 := wordL_inj ht.bx hu.bx a1
  have b2 := wordL_inj ht.by1 hu.by1 a2
  have b3 := decS_inj h1 k1 a3
  have b4 := decS_inj (by omega) (by omega) a4
  have hlen : t.xs.length = u.xs.length := by rw [h4, k4, b4]
  obtain ⟨c1, -⟩ := List.append_inj a5 (by simp; omega)
  have c2 : t.xs.zip t.ys = u.xs.zip u.ys := map_inj_on (fun p hp q hq hpq => cellP_inj (ht.hx _ (List.of_mem_zip hp).1) (hu.hx _ (List.of_mem_zip hq).1) (h6 _ (List.of_mem_zip hp).2) (k6 _ (List.of_mem_zip hq).2) hpq) c1
  have d1 : t.xs = u.xs := by
    have := congrArg (List.map Prod.fst) c2
    rwa [List.map_fst_zip (by omega), List.map_fst_zip (by omega)] at this
  have d2 : t.ys = u.ys := by
    have := congrArg (List.map Prod.snd) c2
    rwa [List.map_snd_zip (by omega), List.map_snd_zip (by omega)] at this
  cases t; cases u
  simp_all
end Go.Proofs.YtidbdokoonikpaaGreatDoor
end

section
/- Walks: the reference's TileText at whatever place. -/
namespace Go.Proofs.YtidbdokoonikpaaGreatDoor
open Go.RowKit Flo

set_option maxRecDepth 100000 in
set_option maxHeartbeats 1000000 in
theorem specWell_no (cx cy : Nat) (deep size : Int) (hx : cx < 4294967296) (hy : cy < 4294967296) (hp : placeB cx cy deep size = false) (va vb : Value) (w : World) :
    Calls Tryz.prog 58 #[.agg #[.complex .f32 cx cy, .int .i64 deep, .int .i64 size, va, vb]] w fun e w' => e = .returned (.bool false) ∧ Below w.heap.size w w' := by
  have hP := l7Place_is cx cy deep size hx hy
  rw [hp] at hP
  have HP := Lib.hid hP
  have B := Box.new w #[.complex .f32 cx cy, .int .i64 deep, .int .i64 size, va, vb] 27
  clear hP hp
  go_enter Tryz.func58, Tryz.ntmps58
  go_wp2_with fail
  refine (HP.out _).mono ?_
  rintro e w1 ⟨rfl, hd⟩
  have HB := Lib.hid (B.step (hd.below _)).old
  clear B hd
  go_wp2
  go_ret
  exact ⟨rfl, HB.out⟩
set_option maxRecDepth 100000 in
set_option maxHeartbeats 1000000 in
theorem specSum_no (cx cy : Nat) (deep size : Int) (hx : cx < 4294967296) (hy : cy < 4294967296) (hp : placeB cx cy deep size = false) (a a' : Option Addr) (n c n' c' : Nat) (w : World) :
    Calls Tryz.prog 30 #[.agg #[.complex .f32 cx cy, .int .i64 deep, .int .i64 size, .slice a n c, .slice a' n' c']] w fun e w' => e = .returned (.tuple #[.int .u32 0, .bool false]) ∧ Below w.heap.size w w' := by
  have B := Box.new w #[.complex .f32 cx cy, .int .i64 deep, .int .i64 size, .slice a n c, .slice a' n' c'] 27
  have HW := Lib.hid (fun w => specWell_no cx cy deep size hx hy hp (.slice a n c) (.slice a' n' c') w)
  clear hp
  go_enter Tryz.func30, Tryz.ntmps30
  go_wp2_with fail
  refine (HW.out _).mono ?_
  rintro e w1 ⟨rfl, hd⟩
  have HB := Lib.hid (B.step hd).old
  clear hd HW B
  go_wp2
  go_ret2
  exact ⟨rfl, HB.out⟩
set_option maxRecDepth 100000 in
set_option maxHeartbeats 1000000 in
theorem specText_no (cx cy : Nat) (deep size : Int) (hx : cx < 4294967296) (hy : cy < 4294967296) (hp : placeB cx cy deep size = false) (a a' : Option Addr) (n c n' c' : Nat) (w : World) :
    Calls Tryz.prog 9 #[.agg #[.complex .f32 cx cy, .int .i64 deep, .int .i64 size, .slice a n c, .slice a' n' c']] w fun e w' => e = .returned (.tuple #[.string ⟨#[]⟩, .bool false]) ∧ Below w.heap.size w w' := by
  have B := Box.new w #[.complex .f32 cx cy, .int .i64 deep, .int .i64 size, .slice a n c, .slice a' n' c'] 27
  have HW := Lib.hid (fun w => specSum_no cx cy deep size hx hy hp a a' n c n' c' w)
  clear hp
  go_enter Tryz.func9, Tryz.ntmps9
  go_wp2_with fail
  refine (HW.out _).mono ?_
  rintro e w1 ⟨rfl, hd⟩
  have HB := Lib.hid (B.step hd).old
  clear hd HW B
  go_wp2
  go_ret2
  exact ⟨rfl, HB.out⟩
/-- the reference's text at whatever place: it tells whether the tile is a good one -/
theorem specText_any (cx cy : Nat) (deep size : Int) (hx : cx < 4294967296) (hy : cy < 4294967296) (a a' : Option Addr) (c c' : Nat) (xs : List Nat) (ys : List Int) (hl : ys.length ≤ 1048576) (hxx : ∀ x, x ∈ xs → x < 4294967296) (w : World) (hs : Sl w a (xs.map floV)) (hs' : Sl w a' (ys.map intV)) :
    Calls Tryz.prog 9 #[.agg #[.complex .f32 cx cy, .int .i64 deep, .int .i64 size, .slice a xs.length c, .slice a' ys.length c']] w fun e w' => (∃ (T : ByteArray) (ok : Bool), e = .returned (.tuple #[.string T, .bool ok]) ∧ ((ok = false ∧ ∀ t : TD, t.Good → ¬ (t.cx = cx ∧ t.cy = cy ∧ (t.d : Int) = deep ∧ (t.s : Int) = size ∧ t.xs = xs ∧ t.ys = ys)) ∨ (ok = true ∧ ∃ t : TD, t.Good ∧ t.cx = cx ∧ t.cy = cy ∧ (t.d : Int) = deep ∧ (t.s : Int) = size ∧ t.xs = xs ∧ t.ys = ys ∧ T.data.toList = t.text))) ∧ Below w.heap.size w w' := by
  cases hp : placeB cx cy deep size with
  | false =>
    refine (specText_no cx cy deep size hx hy hp a a' xs.length c ys.length c' w).mono ?_
    rintro e w' ⟨rfl, hd⟩
    refine ⟨⟨_, false, rfl, .inl ⟨rfl, ?_⟩⟩, hd⟩
    rintro t ht ⟨rfl, rfl, rfl, rfl, -, -⟩
    have := ht.pl
    rw [hp] at this
    cases this
  | true =>
    obtain ⟨h1, h2, h3, h4⟩ := placeB_bd hp
    obtain ⟨d, rfl⟩ := Int.eq_ofNat_of_zero_le h1
    obtain ⟨s, rfl⟩ := Int.eq_ofNat_of_zero_le (show 0 ≤ size by omega)
    cases hw : wellB s xs.length ys with
    | false =>
      refine (specText_bad cx cy d s hx hy hp a a' xs.length c c' ys hl w hs' hw).mono ?_
      rintro e w' ⟨rfl, hd⟩
      refine ⟨⟨_, false, rfl, .inl ⟨rfl, ?_⟩⟩, hd⟩
      rintro t ht ⟨-, -, -, e4, rfl, rfl⟩
      have := ht.wl
      rw [e4, hw] at this
      cases this
    | true =>
      refine (specText_good cx cy d s hx hy hp a a' c c' xs ys hl hxx w hs hs' hw).mono ?_
      rintro e w' ⟨rfl, hd⟩
      exact ⟨⟨_, true, rfl, .inr ⟨rfl, ⟨cx, cy, d, s, xs, ys⟩, ⟨hx, hy, hp, hw, hxx⟩, rfl, rfl, rfl, rfl, rfl, rfl, rfl⟩⟩, hd⟩
end Go.Proofs.YtidbdokoonikpaaGreatDoor
end

section
/- Plain: whoever has read all pieces of a text has read its tile. -/
namespace Go.Proofs.YtidbdokoonikpaaGreatDoor

theorem wordR_getD_lt (l : List UInt8) : (wordR l).getD 0 < 4294967296 := by
  cases h : wordR l with
  | none => decide
  | some v => exact wordR_lt h
/-- what the reference reads of a cell -/
def markS (c : UInt8) : Int := if c = 43 then 1 else if c = 45 then -1 else 0
def cellRd (p : List UInt8) : Option (Nat × Int) := if p.length = 9 then (wordR (p.take 8)).map (fun x => (x, markS (p.getD 8 0))) else none
theorem markS_sgnC {y : Int} (h : -1 ≤ y ∧ y ≤ 1) : markS (sgnC y) = y := by
  rcases (by omega : y = -1 ∨ y = 0 ∨ y = 1) with rfl | rfl | rfl <;> decide
theorem cellRd_is {x : Nat} {y : Int} (hx : x < 4294967296) (hy : -1 ≤ y ∧ y ≤ 1) : cellRd (wordL x ++ [sgnC y]) = some (x, y) := by
  unfold cellRd
  rw [if_pos (by rw [List.length_append, wordL_length]; rfl), List.take_left' (wordL_length x), wordR_wordL x hx]
  have e : (wordL x ++ [sgnC y]).getD 8 0 = sgnC y := by
    rw [List.getD_eq_getElem?_getD, List.getElem?_append_right (by rw [wordL_length]; omega), wordL_length]
    rfl
  rw [e, markS_sgnC hy]
  rfl
theorem markS_le (c : UInt8) : -1 ≤ markS c ∧ markS c ≤ 1 := by unfold markS; split <;> (try split) <;> omega
/-- the pieces of a good tile's text, one by one -/
theorem TD.pieces {t : TD} (h : t.Good) {P : List (List UInt8)} (hP : splitL t.text = P) :
    P.length = 6 + t.xs.length ∧ P.getD 0 [] = tileW ∧ P.getD 1 [] = wordL t.cx ∧ P.getD 2 [] = wordL t.cy ∧ P.getD 3 [] = (decS t.d).data.toList ∧ P.getD 4 [] = (decS t.s).data.toList ∧
      ∀ j, j < t.xs.length → P.getD (5 + j) [] = wordL (t.xs.getD j 0) ++ [sgnC (t.ys.getD j 0)] := by
  obtain ⟨h1, h2, h3, h4, h5, h6, h7⟩ := TD.bd h
  rw [TD.split h] at hP
  subst hP
  refine ⟨by rw [List.length_cons, TD.rest_len h]; omega, rfl, rfl, rfl, rfl, rfl, fun j hj => ?_⟩
  rw [List.getD_eq_getElem?_getD, TD.cell t hj (by omega), List.getD_eq_getElem?_getD, List.getElem?_eq_getElem hj, List.getD_eq_getElem?_getD, List.getElem?_eq_getElem (by omega)]
  rfl
theorem TD.cells {t : TD} (h : t.Good) {P : List (List UInt8)} (hP : splitL t.text = P) {j : Nat} (hj : j < t.xs.length) : cellRd (P.getD (5 + j) []) = some (t.xs.getD j 0, t.ys.getD j 0) := by
  obtain ⟨h1, h2, h3, h4, h5, h6, h7⟩ := TD.bd h
  rw [(TD.pieces h hP).2.2.2.2.2.2 j hj]
  refine cellRd_is ?_ ?_
  · rw [List.getD_eq_getElem?_getD, List.getElem?_eq_getElem hj]; exact h.hx _ (List.getElem_mem _)
  · rw [List.getD_eq_getElem?_getD, List.getElem?_eq_getElem (show j < t.ys.length by omega)]; exact h6 _ (List.getElem_mem _)
theorem eq_of_getD {α : Type} {l m : List α} {d : α} (h : l.length = m.length) (e : ∀ j, j < l.length → l.getD j d = m.getD j d) : l = m := by
  refine List.ext_getElem h fun i h1 h2 => ?_
  have := e i h1
  rwa [List.getD_eq_getElem?_getD, List.getElem?_eq_getElem h1, List.getD_eq_getElem?_getD, List.getElem?_eq_getElem h2] at this
/-- whoever has read all pieces has read the tile -/
theorem TD.told {t : TD} (h : t.Good) {P : List (List UInt8)} (hP : splitL t.text = P) {A1 A2 A3 A4 : List UInt8} (e1 : A1 = P.getD 1 []) (e2 : A2 = P.getD 2 []) (e3 : A3 = P.getD 3 []) (e4 : A4 = P.getD 4 [])
    {k3 k4 : Int} (d3 : ∀ n : Nat, n ≤ 10 → A3 = (decS n).data.toList → k3 = n) (d4 : ∀ n : Nat, n ≤ 10 → A4 = (decS n).data.toList → k4 = n) {xs : List Nat} {ys : List Int} (hx : 6 + xs.length = P.length) (hy : ys.length = xs.length)
    (hc : ∀ j, j < xs.length → cellRd (P.getD (5 + j) []) = some (xs.getD j 0, ys.getD j 0)) :
    wordR A1 = some t.cx ∧ wordR A2 = some t.cy ∧ (t.d : Int) = k3 ∧ (t.s : Int) = k4 ∧ t.xs = xs ∧ t.ys = ys := by
  obtain ⟨h1, h2, h3, h4, h5, h6, h7⟩ := TD.bd h
  obtain ⟨p1, -, p2, p3, p4, p5, -⟩ := TD.pieces h hP
  have hl : t.xs.length = xs.length := by omega
  refine ⟨by rw [e1, p2]; exact wordR_wordL _ h.bx, by rw [e2, p3]; exact wordR_wordL _ h.by1, (d3 t.d h1 (by rw [e3, p4])).symm, (d4 t.s (by omega) (by rw [e4, p5])).symm, ?_, ?_⟩
  · refine eq_of_getD (d := 0) hl fun j hj => ?_
    have := (TD.cells h hP hj).symm.trans (hc j (by omega))
    injection this with this
    exact congrArg Prod.fst this
  · refine eq_of_getD (d := 0) (by omega) fun j hj => ?_
    have := (TD.cells h hP (j := j) (by omega)).symm.trans (hc j (by omega))
    injection this with this
    exact congrArg Prod.snd this
end Go.Proofs.YtidbdokoonikpaaGreatDoor
end

section
/- Walks: the reference's cut at spaces. -/
namespace Go.Proofs.YtidbdokoonikpaaGreatDoor
open Go.RowKit

def strV (p : List UInt8) : Value := .string ⟨p.toArray⟩
theorem infoS : (Tryz.prog.info? 9).map (fun i => (i.zero, i.size, i.bytes)) = some (some (.string ByteArray.empty), 1, 16) := by kernel_rfl
/-- the state of a cut -/
def SpI (l : List UInt8) (i «from» : Nat) (ps : List (List UInt8)) : Prop :=
  (i ≤ l.length ∧ «from» ≤ i ∧ splitL l = ps ++ splitL (l.drop «from») ∧ ∀ c, c ∈ (l.drop «from»).take (i - «from») → c ≠ 32) ∨ (i = l.length + 1 ∧ splitL l = ps)
theorem SpI.start (l : List UInt8) : SpI l 0 0 [] := .inl ⟨Nat.zero_le _, Nat.le_refl _, rfl, fun c h => by simp at h⟩
theorem SpI.len {l : List UInt8} {i f : Nat} {ps : List (List UInt8)} (h : SpI l i f ps) : ps.length ≤ l.length + 1 := by
  have hl := splitL_len l
  rcases h with ⟨_, _, h, _⟩ | ⟨_, h⟩
  · rw [h, List.length_append] at hl; omega
  · rw [h] at hl; exact hl
theorem SpI.from_le {l : List UInt8} {i f : Nat} {ps : List (List UInt8)} (h : SpI l i f ps) (hi : i ≤ l.length) : f ≤ i := by
  rcases h with ⟨_, h, _⟩ | ⟨h, _⟩
  · exact h
  · omega
theorem drop_take_snoc (l : List UInt8) {f i : Nat} (hf : f ≤ i) (hi : i < l.length) : (l.drop f).take (i + 1 - f) = (l.drop f).take (i - f) ++ [l[i]] := by
  have h1 : i - f < (l.drop f).length := by rw [List.length_drop]; omega
  rw [show i + 1 - f = (i - f) + 1 by omega, List.take_succ_eq_append_getElem h1, List.getElem_drop]
  congr 3
  omega
theorem SpI.next {l : List UInt8} {i f : Nat} {ps : List (List UInt8)} (h : SpI l i f ps) (hi : i < l.length) (hc : l[i] ≠ 32) : SpI l (i + 1) f ps := by
  rcases h with ⟨_, h2, h3, h4⟩ | ⟨h, _⟩
  · refine .inl ⟨hi, by omega, h3, fun c hcm => ?_⟩
    rw [drop_take_snoc l h2 hi, List.mem_append] at hcm
    rcases hcm with hcm | hcm
    · exact h4 c hcm
    · simp at hcm; rw [hcm]; exact hc
  · omega
theorem SpI.hit {l : List UInt8} {i f : Nat} {ps : List (List UInt8)} (h : SpI l i f ps) (hi : i < l.length) (hc : l[i] = 32) : SpI l (i + 1) (i + 1) (ps ++ [(l.drop f).take (i - f)]) := by
  rcases h with ⟨_, h2, h3, h4⟩ | ⟨h, _⟩
  · refine .inl ⟨hi, Nat.le_refl _, ?_, fun c hcm => by simp at hcm⟩
    have e : l.drop f = (l.drop f).take (i - f) ++ 32 :: l.drop (i + 1) := by
      have e1 : (l.drop f).drop (i - f) = l.drop i := by rw [List.drop_drop]; congr 1; omega
      rw [← hc, ← List.drop_eq_getElem_cons hi, ← e1, List.take_append_drop]
    rw [h3]
    obtain ⟨q, hq⟩ : ∃ q, (l.drop f).take (i - f) = q := ⟨_, rfl⟩
    rw [hq] at e h4 ⊢
    rw [e, splitL_hit _ _ h4]
    simp
  · omega
theorem SpI.last {l : List UInt8} {i f : Nat} {ps : List (List UInt8)} (h : SpI l i f ps) (hi : i = l.length) : SpI l (i + 1) (i + 1) (ps ++ [(l.drop f).take (i - f)]) := by
  rcases h with ⟨_, h2, h3, h4⟩ | ⟨h, _⟩
  · refine .inr ⟨by omega, ?_⟩
    have e : (l.drop f).take (i - f) = l.drop f := List.take_of_length_le (by rw [List.length_drop]; omega)
    rw [e] at h4 ⊢
    rw [h3, splitL_one _ h4]
  · omega
theorem extract_strV (s : ByteArray) (f i : Nat) : Value.string (s.extract f i) = strV ((s.data.toList.drop f).take (i - f)) := by
  unfold strV
  congr 1
  apply ByteArray.ext
  apply Array.toList_inj.1
  rw [Lib.extract_data]
set_option maxRecDepth 100000 in
set_option maxHeartbeats 1000000 in
theorem l9Split_any (s : ByteArray) (hs : s.size ≤ 1048576) (w : World) : Calls Tryz.prog 41 #[.string s] w fun e w' => (∃ g cap, e = .returned (.slice (some ⟨g, 0, none⟩) (splitL s.data.toList).length cap) ∧ w'.ownsRow w.heap.size 9 1 (.slice (some ⟨g, 0, none⟩) (splitL s.data.toList).length cap) (splitL s.data.toList).length ((splitL s.data.toList).map strV)) ∧ Below w.heap.size w w' := by
  obtain ⟨iS, hiS, hzS0, hzS1, hzS2⟩ := info_parts infoS
  have hlen := len_eq s
  have HBY := Lib.hid (byte_eq s)
  have h0 := World.ownsRow_lit (e := 9) (size := 1) (base := w.heap.size) w #[] 0 (by simp) (by decide) rfl
  have HB0 := Lib.hid ((Below.refl w.heap.size w).alloc (Nat.le_refl _) (.cells #[] 9))
  have H0 := Lib.hid h0
  clear h0
  go_enter Tryz.func41, Tryz.ntmps41
  go_wp2_with fail
  go_loopw [3, 4, 5] (fun o f i wr => ∃ (k fr cap g : Nat) (ps : List (List UInt8)), k ≤ s.size + 1 ∧ i = .int .i64 k ∧ f = .int .i64 fr ∧ o = .slice (some ⟨g, 0, none⟩) ps.length cap ∧ Hid (SpI s.data.toList k fr ps) ∧ Hid (wr.ownsRow w.heap.size 9 1 (.slice (some ⟨g, 0, none⟩) ps.length cap) ps.length (ps.map strV)) ∧ Hid (Below w.heap.size w wr)) (fun _ _ i _ => (s.size + 1 - intOf i).toNat)
  case atStart => exact ⟨0, 0, 0, w.heap.size, [], by omega, rfl, rfl, rfl, SpI.start _, H0.out, HB0.out⟩
  case round =>
    obtain ⟨k, fr, cap, g, ps, hk, rfl, rfl, rfl, HS, HO, HB⟩ := hrel
    clear H0 HB0
    have hps := HS.out.len
    rw [hlen] at hps
    by_cases hle : k ≤ s.size
    · have hfr := HS.out.from_le (by rw [hlen]; exact hle)
      by_cases hlt : k < s.size
      · have hkl : k < s.data.toList.length := by rw [hlen]; exact hlt
        have e1 : ((k : Int) == s.size) = false := by simp; omega
        by_cases hc : s.data.toList[k]'hkl = 32
        · have hc1 : (s[k]'hlt) = 32 := by rw [HBY.out k hlt, List.getD_eq_getElem?_getD, List.getElem?_eq_getElem hkl]; exact hc
          have hc2 : (((s[k]'hlt).toNat : Int) == 32) = true := by rw [hc1]; rfl
          have HN := Lib.hid (HS.out.hit hkl hc)
          have HE := Lib.hid (extract_strV s fr k)
          clear hc hc1 hkl
          go_wp2_with (at_builtin; refine wpList_append_lies _ rfl _ _ _ rfl w.heap.size 9 iS _ 1 16 Tryz.underlying37 hiS hzS0 hzS1 hzS2 rfl (by omega) _ ps.length (ps.map strV) rfl (HO.out.alloc _) ⟨wr.heap.size, 0, none⟩ 1 1 [.string (s.extract fr k)] rfl rfl (World.news_of_block (cs := #[.string (s.extract fr k)]) (t := 9) (fr := (0, 0)) (heap_alloc_new wr _)) (by simp [Value.oneCell']) (by omega) (by unfold maxLen; omega) (by omega) (by simp; have := HB.out.size; omega) (wr.heap.size + 1) (by simp) ?_; intro g8 c8 w8 hown hgrow _ _; have HB8 := Lib.hid ((HB.out.alloc HB.out.size (.cells #[.string (s.extract fr k)] 9)).grown hgrow (by simp; have := HB.out.size; omega) (fun q hq => by have hq' : some g = some q := hq; injection hq' with hq'; rw [← hq']; exact own_ge HO.out)); have HO8 := Lib.hid hown; clear hown hgrow)
          go_roundw
          case rel => exact ⟨k + 1, k + 1, c8, g8, ps ++ [(s.data.toList.drop fr).take (k - fr)], by omega, by go_num, by go_num, by simp, HN, Lib.hid (by have := HO8.out; rw [HE.out] at this; simpa using this), HB8⟩
          case measure => simp [intOf]; omega
        · have hc1 : (s[k]'hlt) ≠ 32 := by rw [HBY.out k hlt, List.getD_eq_getElem?_getD, List.getElem?_eq_getElem hkl]; exact hc
          have hc2 : (((s[k]'hlt).toNat : Int) == 32) = false := by
            rw [beq_eq_false_iff_ne]
            intro h
            have h2 : (s[k]'hlt).toNat = 32 := by omega
            exact hc1 (UInt8.toNat_inj.1 h2)
          have HN := Lib.hid (HS.out.next hkl hc)
          clear hc hc1 hkl
          go_wp2_with fail
          go_roundw
          case rel => exact ⟨k + 1, fr, cap, g, ps, by omega, by go_num, rfl, rfl, HN, HO, HB⟩
          case measure => simp [intOf]; omega
      · obtain rfl : k = s.size := by omega
        have e1 : ((s.size : Int) == s.size) = true := by simp
        have HN := Lib.hid (HS.out.last hlen.symm)
        have HE := Lib.hid (extract_strV s fr s.size)
        go_wp2_with (at_builtin; refine wpList_append_lies _ rfl _ _ _ rfl w.heap.size 9 iS _ 1 16 Tryz.underlying37 hiS hzS0 hzS1 hzS2 rfl (by omega) _ ps.length (ps.map strV) rfl (HO.out.alloc _) ⟨wr.heap.size, 0, none⟩ 1 1 [.string (s.extract fr s.size)] rfl rfl (World.news_of_block (cs := #[.string (s.extract fr s.size)]) (t := 9) (fr := (0, 0)) (heap_alloc_new wr _)) (by simp [Value.oneCell']) (by omega) (by unfold maxLen; omega) (by omega) (by simp; have := HB.out.size; omega) (wr.heap.size + 1) (by simp) ?_; intro g8 c8 w8 hown hgrow _ _; have HB8 := Lib.hid ((HB.out.alloc HB.out.size (.cells #[.string (s.extract fr s.size)] 9)).grown hgrow (by simp; have := HB.out.size; omega) (fun q hq => by have hq' : some g = some q := hq; injection hq' with hq'; rw [← hq']; exact own_ge HO.out)); have HO8 := Lib.hid hown; clear hown hgrow)
        go_roundw
        case rel => exact ⟨s.size + 1, s.size + 1, c8, g8, ps ++ [(s.data.toList.drop fr).take (s.size - fr)], by omega, by go_num, by go_num, by simp, HN, Lib.hid (by have := HO8.out; rw [HE.out] at this; simpa using this), HB8⟩
        case measure => simp [intOf]
    · obtain rfl : k = s.size + 1 := by omega
      have HR : Hid (splitL s.data.toList = ps) := by
        rcases HS.out with ⟨h, _⟩ | ⟨_, h⟩
        · rw [hlen] at h; omega
        · exact h
      go_wp2_with fail
      go_ret
      refine ⟨⟨g, cap, ?_, ?_⟩, HB.out⟩
      · rw [show splitL s.data.toList = ps from HR.out]; rfl
      · rw [show splitL s.data.toList = ps from HR.out]; exact HO.out
end Go.Proofs.YtidbdokoonikpaaGreatDoor
end

section
/- Walks: decimals up to 99 of the reference. -/
namespace Go.Proofs.YtidbdokoonikpaaGreatDoor
open Go.RowKit

/-- a decimal from 0 to 99 -/
def dec2 (n : Nat) : ByteArray := if n < 10 then ⟨#[(48 + n).toUInt8]⟩ else ⟨#[(48 + n / 10).toUInt8, (48 + n % 10).toUInt8]⟩
theorem dec2_decS (n : Nat) (h : n ≤ 10) : dec2 n = decS n := by
  have : ∀ k : Fin 11, dec2 k.val = decS k.val := by decide
  exact this ⟨n, by omega⟩
set_option maxRecDepth 100000 in
set_option maxHeartbeats 1000000 in
theorem l6Dec_two (n q r : Nat) (hn : n = 10 * q + r) (hr : r < 10) (hq1 : 1 ≤ q) (hq : q < 10) (w : World) : Calls Tryz.prog 32 #[.int .i64 n] w fun e w' => e = .returned (.string ⟨#[(48 + q).toUInt8, (48 + r).toUInt8]⟩) ∧ Below w.heap.size w w' := by
  obtain ⟨b, hb⟩ : ∃ b : UInt8, (48 + r).toUInt8 = b := ⟨_, rfl⟩
  obtain ⟨k, hk⟩ : ∃ k : Int, (48 + (r : Int)) = k := ⟨_, rfl⟩
  have hkb : k = b.toNat := by rw [← hb, ← hk]; simp; omega
  have HL : Hid (∀ w, Calls Tryz.prog 32 #[.int .i64 q] w fun e w' => e = .returned (.string ⟨#[(48 + q).toUInt8]⟩) ∧ Below w.heap.size w w') := fun w => by
    have := l6Dec_digit q hq w
    unfold decS at this
    rwa [if_neg (by omega)] at this
  obtain ⟨D, hD⟩ : ∃ D : ByteArray, ⟨#[(48 + q).toUInt8]⟩ = D := ⟨_, rfl⟩
  have hDs : D.size = 1 := by rw [← hD]; rfl
  have HF : Hid (D ++ ⟨#[b]⟩ = ⟨#[(48 + q).toUInt8, (48 + r).toUInt8]⟩) := by show _ = _; rw [← hD, ← hb]; rfl
  rw [hD] at HL
  clear hD hb
  have HC : Hid (∀ W g, W.cell? ⟨g, 0, none⟩ = some (.int .u8 k) → (convert 22 9 (.slice (some ⟨g, 0, none⟩) 1 1)).run Tryz.prog W = .ok (.string ⟨#[b]⟩) W) := fun W g h => cell_str b W g k hkb h
  have h1 := byte_str b w k hkb
  have HC2 : Hid (∀ W5, Below (w.alloc (.cells #[.int .u8 k] 5)).drew.heap.size (w.alloc (.cells #[.int .u8 k] 5)).drew W5 → (convert 22 9 (.slice (some ⟨w.heap.size, 0, none⟩) 1 1)).run Tryz.prog W5 = .ok (.string ⟨#[b]⟩) W5) := fun W5 h =>
    HC.out W5 _ ((((Box.new w #[.int .u8 k] 5).step ((Drw.refl _).drew.below _)).step h).cell 0 _ rfl)
  have HE : Hid (∀ W5, Below w.drew.heap.size w.drew W5 → Below w.heap.size w (W5.alloc (.cells #[.int .u8 k] 5))) := fun W5 h => ((Below.refl _ _).drew.trans h).alloc h.size _
  have HE2 : Hid (∀ W5, Below (w.alloc (.cells #[.int .u8 k] 5)).drew.heap.size (w.alloc (.cells #[.int .u8 k] 5)).drew W5 → Below w.heap.size w W5) := fun W5 h => (((Below.refl w.heap.size w).alloc (Nat.le_refl _) _).drew).trans (h.mono (by show w.heap.size ≤ (w.alloc (.cells #[.int .u8 k] 5)).heap.size; simp))
  have h1d := HC2.out _ (Below.refl _ _)
  clear HC
  have hnn : (n : Int) = 10 * q + r := by omega
  have d1 : decide ((n : Int) < -9223372036854775807) = false := by simp
  have d2 : decide ((n : Int) < 0) = false := by simp
  have d3 : decide ((n : Int) < 10) = false := by simp; omega
  have t1 : (n : Int).tdiv 10 = q := by rw [Int.tdiv_eq_ediv_of_nonneg (by omega)]; omega
  have t2 : (n : Int).tmod 10 = r := by rw [Int.tmod_eq_emod_of_nonneg (by omega)]; omega
  have hnk : n ≤ 99 := by omega
  clear hn hnn
  go_enter Tryz.func32, Tryz.ntmps32
  go_upto_region 7 with fail
  have k1 : IntKind.i64.wrap q = q := IntWalk.i64_in _ (by omega)
  have k2 : IntKind.i64.wrap (48 + (r : Int)) = k := by rw [hk]; exact IntWalk.i64_in _ (by omega)
  have k4 : IntKind.i64.wrap r = r := IntWalk.i64_in _ (by omega)
  have k5 : IntKind.i64.wrap k = k := IntWalk.i64_in _ (by omega)
  have k3 : IntKind.u8.wrap k = k := by
    rw [← hk]
    rcases (by omega : r = 0 ∨ r = 1 ∨ r = 2 ∨ r = 3 ∨ r = 4 ∨ r = 5 ∨ r = 6 ∨ r = 7 ∨ r = 8 ∨ r = 9) with rfl | rfl | rfl | rfl | rfl | rfl | rfl | rfl | rfl | rfl <;> decide
  have HKB := Lib.hid hkb
  clear hkb
  go_region_with (go_at_call 32; with_reducible refine (HL.out _).mono ?_; rintro e w5 ⟨rfl, hb⟩; have h2 := byte_str b w5 k HKB.out; (first | (have h3 := HC2.out _ hb) | skip))
  all_goals
    go_wp2
    go_ret
    first
      | exact ⟨by rw [HF.out]; rfl, HE.out _ hb⟩
      | exact ⟨by rw [HF.out]; rfl, HE2.out _ hb⟩
theorem l6Dec_99 (n : Nat) (hn : n < 100) (w : World) : Calls Tryz.prog 32 #[.int .i64 n] w fun e w' => e = .returned (.string (dec2 n)) ∧ Below w.heap.size w w' := by
  unfold dec2
  by_cases h : n < 10
  · rw [if_pos h]
    have := l6Dec_digit n h w
    unfold decS at this
    rwa [if_neg (by omega)] at this
  · rw [if_neg h]
    exact l6Dec_two n (n / 10) (n % 10) (by omega) (by omega) (by omega) (by omega) w
theorem dec2_inj {n m : Nat} (hn : n < 100) (hm : m < 100) (h : (dec2 n).data.toList = (dec2 m).data.toList) : n = m := by
  have : ∀ k j : Fin 100, (dec2 k.val).data.toList = (dec2 j.val).data.toList → k.val = j.val := by decide +kernel
  exact this ⟨n, hn⟩ ⟨m, hm⟩ h
set_option maxRecDepth 100000 in
set_option maxHeartbeats 1000000 in
theorem l9Small_any (s : ByteArray) (w : World) : Calls Tryz.prog 43 #[.string s] w fun e w' => (∃ k : Int, e = .returned (.int .i64 k) ∧ -1 ≤ k ∧ k ≤ 99 ∧ ∀ n : Nat, n ≤ 10 → s.data.toList = (decS n).data.toList → k = n) ∧ Below w.heap.size w w' := by
  have HL := Lib.hid (fun n h w => l6Dec_99 n h w)
  go_enter Tryz.func43, Tryz.ntmps43
  go_wp2_with fail
  go_loopw [3] (fun i wr => ∃ j : Nat, j ≤ 100 ∧ i = .int .i64 j ∧ Hid (∀ m : Nat, m < j → (dec2 m).data.toList ≠ s.data.toList) ∧ Hid (Below w.heap.size w wr)) (fun i _ => (100 - intOf i).toNat)
  case atStart => exact ⟨0, by omega, rfl, (fun m h => by omega), Below.refl _ _⟩
  case round =>
    obtain ⟨j, hj, rfl, HN, HB⟩ := hrel
    by_cases hlt : j < 100
    · by_cases he : (dec2 j).data.toList = s.data.toList
      · obtain ⟨D, hD⟩ : ∃ D, dec2 j = D := ⟨_, rfl⟩
        have hq : (D.toList == s.toList) = true := by rw [← hD, ByteArray.toList_eq, ByteArray.toList_eq, he]; simp
        have HR : Hid (∀ n : Nat, n ≤ 10 → s.data.toList = (decS n).data.toList → (j : Int) = n) := fun n hn h => by
          rw [← he, ← dec2_decS n hn] at h
          rw [dec2_inj hlt (by omega) h]
        have HLj : Hid (∀ w, Calls Tryz.prog 32 #[.int .i64 j] w fun e w' => e = .returned (.string D) ∧ Below w.heap.size w w') := fun w => by rw [← hD]; exact HL.out j hlt w
        clear hD he
        go_wp2_with fail
        with_reducible refine (HLj.out _).mono ?_
        rintro e w5 ⟨rfl, hb⟩
        have HB2 := Lib.hid (HB.out.trans (hb.mono HB.out.size))
        clear hb
        go_wp2
        go_ret
        exact ⟨⟨j, rfl, by omega, by omega, HR.out⟩, HB2.out⟩
      · obtain ⟨D, hD⟩ : ∃ D, dec2 j = D := ⟨_, rfl⟩
        have hq : (D.toList == s.toList) = false := by rw [← hD, ByteArray.toList_eq, ByteArray.toList_eq]; simpa using he
        have HR : Hid (∀ m : Nat, m < j + 1 → (dec2 m).data.toList ≠ s.data.toList) := fun m hm => by
          by_cases h : m = j
          · subst h; exact he
          · exact HN.out m (by omega)
        have HLj : Hid (∀ w, Calls Tryz.prog 32 #[.int .i64 j] w fun e w' => e = .returned (.string D) ∧ Below w.heap.size w w') := fun w => by rw [← hD]; exact HL.out j hlt w
        clear hD he
        go_wp2_with fail
        with_reducible refine (HLj.out _).mono ?_
        rintro e w5 ⟨rfl, hb⟩
        have HB2 := Lib.hid (HB.out.trans (hb.mono HB.out.size))
        clear hb
        go_wp2
        go_roundw
        case rel => exact ⟨j + 1, by omega, by go_num, HR, HB2⟩
        case measure => simp [intOf]; omega
    · obtain rfl : j = 100 := by omega
      have HR : Hid (∀ n : Nat, n ≤ 10 → s.data.toList = (decS n).data.toList → (-1 : Int) = n) := fun n hn h => by
        exact absurd (by rw [h, dec2_decS n hn]) (HN.out n (by omega))
      go_wp2
      go_ret
      exact ⟨⟨-1, rfl, by omega, by omega, HR.out⟩, HB.out⟩
end Go.Proofs.YtidbdokoonikpaaGreatDoor
end

section
/- Walks of strings.IndexByte. -/
namespace Go.Proofs.YtidbdokoonikpaaGreatDoor
open Go.RowKit

theorem IndexByteString_run (s : ByteArray) (c : Int) (w : World) : (callFunc 111 #[.string s, .int .u8 c]).run Tryz.prog w = .ok (.value (.int .i64 (Lib.indexByte s.data.toList c.toNat.toUInt8))) w := by
  rw [run_callFunc_extern Tryz.func111 (by kernel_rfl) (by kernel_rfl) (by kernel_rfl) (e := Extern.BytealgIndexByte.indexByte) (by kernel_rfl), Lib.run_indexByteString]
  rfl
set_option maxHeartbeats 400000 in
theorem IndexByte_any (s : ByteArray) (c : Int) (w : World) :
    Calls Tryz.prog 63 #[.string s, .int .u8 c] w fun e w' => e = .returned (.int .i64 (Lib.indexByte s.data.toList c.toNat.toUInt8)) ∧ w = w' := by
  have hx := IndexByteString_run s c
  generalize Lib.indexByte s.data.toList c.toNat.toUInt8 = r at *
  go_enter Tryz.func63, Tryz.ntmps63
  go_wp2
  go_ret
  exact ⟨rfl, rfl⟩
end Go.Proofs.YtidbdokoonikpaaGreatDoor
end
