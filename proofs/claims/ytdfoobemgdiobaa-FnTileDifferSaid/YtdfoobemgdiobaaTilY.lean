/- Walks: the program's orbits as iterators; where they escape. -/
import Derived.Test.YtdfoobemgdiobaaTilX
import Derived.Test.YtdfoobemgdiobaaIterR
import Derived.Lib.FrozenHead
import Derived.Shelf.Abstract
namespace Go.Proofs.Ytdfoobemgdiobaa
open Go.RowKit Flo
attribute [local go_sem] Oper.semAt_some
theorem run_st_float (P : Program) (w : World) (a : Addr) (m : Mode) (k : FloatKind) (b : Nat) : (store a (.float k b) m).run P w = stored P w a (.float k b) m := run_store P w a _ m rfl
attribute [local go_sem] run_st_float

theorem Drw.grown {a b : World} (h : Drw a b) {row : Option Nat} : a.grownBy b row := by
  obtain ⟨n, rfl⟩ := h
  exact ⟨rfl, rfl, rfl, Nat.le_refl _, fun _ _ _ => rfl⟩
set_option maxHeartbeats 400000 in
theorem stepsOf_is (n : Int) (w : World) : Calls Try.prog 94 #[.int .i64 n] w fun e w' => e = .returned (.int .i64 (mostN n)) ∧ w = w' := by
  go_enter Try.func94, Try.ntmps94
  go_wp2
  all_goals
    go_ret
    exact ⟨ret_int (by unfold mostN; omega), rfl⟩
set_option maxHeartbeats 400000 in
theorem orbitS_any (c d g : Nat) (w : World) : Calls Try.prog 95 #[.complex .f32 c d, .func (.func g) #[] #[]] w fun e w' => e = .returned (.func (.func 112) #[] #[.pointer (some ⟨w.heap.size + 1, 0, none⟩), .pointer (some ⟨w.heap.size, 0, none⟩)]) ∧ (w.alloc (.cells #[.complex .f32 c d] 32)).alloc (.cells #[.func (.func g) #[] #[]] 100) = w' := by
  go_enter Try.func95, Try.ntmps95
  go_wp2
  go_ret
  exact ⟨rfl, rfl⟩
/-- what the iterator asks of the world ahead of round k -/
structure OrbS (Bc : Nat) (c d : Nat) (k : Nat) (A : World) : Prop where
  num : A.heap[Bc]? = some (.cells #[.complex .f32 c d] 32 (0, 0))
  stp : A.heap[Bc + 1]? = some (.cells #[.func (.func 76) #[] #[]] 100 (0, 0))
  ok : ∀ j, j < k → okS c d j = true
def YldS (c d : Nat) (k : Nat) (v : Array Value) : Prop := ∃ x y : Nat, v = #[.int .i64 k, .complex .f32 x y] ∧ x < 4294967296 ∧ y < 4294967296 ∧ Al .f32 (orbS c d k).1 x ∧ Al .f32 (orbS c d k).2 y
set_option maxHeartbeats 1000000 in
theorem orbS_iters (n c d Bc N : Nat) (hn : 1 ≤ n) (hN : N ≤ 1048576) :
    ItersR Fence.wide n Try.prog 112 #[.pointer (some ⟨Bc + 1, 0, none⟩), .pointer (some ⟨Bc, 0, none⟩)] (YldS c d) (fun _ => False) N (OrbS Bc c d) := by
  intro l J Jx W hJb hJg hY hJ0
  refine callsIn_of_wp Try.func112 rfl trivial ?_ rfl
  simp only [Try.ntmps112, List.size_toArray, List.length_cons, List.length_nil, Nat.reduceAdd, Nat.reduceSub, Array.replicate_succ, Array.replicate_zero, List.push_toArray, List.append_toArray, List.nil_append, List.cons_append]
  gi_wp2
  gi_loopw [4, 5] (fun z i wr => ∃ k x y : Nat, k ≤ N ∧ i = .int .i64 k ∧ z = .complex .f32 x y ∧ x < 4294967296 ∧ y < 4294967296 ∧ Hid (Al .f32 (orbS c d k).1 x ∧ Al .f32 (orbS c d k).2 y) ∧ J k wr) (fun _ i _ => (N + 1 - intOf i).toNat)
  case atStart => exact ⟨0, 0, 0, Nat.zero_le _, rfl, rfl, by omega, by omega, ⟨Al.refl _ _, Al.refl _ _⟩, hJ0⟩
  case round =>
    obtain ⟨k, x, y, hk, rfl, rfl, hx, hy, HA, hJ⟩ := hrel
    obtain ⟨fn, tmps, assign, body, hy', hR⟩ := hY k _ wr hk ⟨x, y, rfl, hx, hy, HA.out.1, HA.out.2⟩ hJ
    gi_wp2
    refine hR.mono ?_
    rintro e W3 (⟨rfl, hkN, hJ3⟩ | ⟨rfl, hJx⟩)
    · have K := hJb _ _ hJ3
      have c0 : W3.cell? ⟨Bc, 0, none⟩ = some (.complex .f32 c d) := by rw [Lib.cell_of_heap K.num]; rfl
      have c1 : W3.cell? ⟨Bc + 1, 0, none⟩ = some (.func (.func 76) #[] #[]) := by rw [Lib.cell_of_heap K.stp]; rfl
      have ho := K.ok k (by omega)
      unfold okS at ho
      have e1 := Al.same HA.out.1 (fin_num (fin_left ho))
      have e2 := Al.same HA.out.2 (fin_num (fin_right ho))
      have HP : Hid ((x, y) = orbS c d k) := by show _ = _; rw [e1, e2]
      rw [← e1, ← e2] at ho
      have HO := Lib.hid ho
      clear ho e1 e2 HA K
      gi_wp2_with (refine ⟨trivial, ?_⟩; gi_at_call 76; refine (callsIn_wide.2 (implStepS_al x y c d hx hy HO.out _)).mono ?_; rintro e W4 ⟨⟨a, b, rfl, ha, hb, aa, ab⟩, hd⟩; have HQ : Hid (Al .f32 (orbS c d (k + 1)).1 a ∧ Al .f32 (orbS c d (k + 1)).2 b) := (by rw [HP.out] at aa ab; exact ⟨aa, ab⟩); have HJ4 := Lib.hid (hJg (k + 1) W3 W4 hJ3 hd.grown); clear aa ab hd)
      go_roundw
      case rel => exact ⟨k + 1, a, b, by omega, by go_num, rfl, ha, hb, HQ, HJ4.out⟩
      case measure => simp [intOf]; omega
    · gi_wp2
      go_end0
      exact ⟨⟨_, rfl⟩, .inl ⟨k, hk, hJx⟩⟩
theorem own_blk {W W' : World} {row : Option Nat} {k : Nat} {o : Obj} (hk : W.heap[k]? = some o) (ho : o.isCells = true) (hg : W.grownBy W' row) (hr : ∀ r, row = some r → ∃ o : Obj, W.heap[r]? = some o ∧ o.isCells = false) : W'.heap[k]? = some o := by
  refine (hg.block k (Array.getElem?_eq_some_iff.1 hk).1 (fun e => ?_)).trans hk
  obtain ⟨o', h1, h2⟩ := hr k e.symm
  rw [hk] at h1
  cases h1
  rw [ho] at h2
  cases h2
/-- what an escape leaves -/
def EscS (c d : Nat) (n : Int) (w : World) (e : Ending) (w' : World) : Prop :=
  (∃ (k : Int) (nm : Nat), e = .returned (.tuple #[.int .i64 k, .float .f64 nm]) ∧ IsEsc (okS c d) (mostN n) k ∧ nm < 18446744073709551616 ∧ (0 ≤ k → Al .f64 (normC (widenC (orbS c d k.toNat).1) (widenC (orbS c d k.toNat).2)) nm)) ∧ Below w.heap.size w w'
structure EscInvS (w : World) (c d M k : Nat) (W : World) : Prop where
  r0 : W.heap[w.heap.size]? = some (.cells #[.int .i64 0] 3 (0, 0))
  r1 : W.heap[w.heap.size + 1]? = some (.cells #[.float .f64 0] 72 (0, 0))
  las : W.heap[w.heap.size + 1 + 1]? = some (.cells #[.int .i64 M] 3 (0, 0))
  orb : OrbS (w.heap.size + 1 + 1 + 1) c d k W
  old : Below w.heap.size w W
theorem EscInvS.own {w : World} {c d M B : Nat} (hB : w.heap.size ≤ B) : OwnFrom B (EscInvS w c d M) := by
  intro k W W' row h hg hr
  have hr' : ∀ r, row = some r → ∃ o : Obj, W.heap[r]? = some o ∧ o.isCells = false := fun r e => (hr r e).2
  exact ⟨own_blk h.r0 rfl hg hr', own_blk h.r1 rfl hg hr', own_blk h.las rfl hg hr', ⟨own_blk h.orb.num rfl hg hr', own_blk h.orb.stp rfl hg hr', h.orb.ok⟩, h.old.grown hg h.old.size (fun j e => Nat.le_trans hB (hr j e).1)⟩
/-- the round has said what is returned -/
structure EscRetS (w : World) (c d M k : Nat) (W : World) : Prop where
  ex : ∃ nm : Nat, W.heap[w.heap.size]? = some (.cells #[.int .i64 k] 3 (0, 0)) ∧ W.heap[w.heap.size + 1]? = some (.cells #[.float .f64 nm] 72 (0, 0)) ∧ nm < 18446744073709551616 ∧ Al .f64 (normC (widenC (orbS c d k).1) (widenC (orbS c d k).2)) nm
  no : okS c d k = false
  ok : ∀ j, j < k → okS c d j = true
  le : k ≤ M
  old : Below w.heap.size w W
theorem EscRetS.own {w : World} {c d M B : Nat} (hB : w.heap.size ≤ B) : OwnFrom B (EscRetS w c d M) := by
  intro k W W' row h hg hr
  have hr' : ∀ r, row = some r → ∃ o : Obj, W.heap[r]? = some o ∧ o.isCells = false := fun r e => (hr r e).2
  obtain ⟨⟨nm, a, b, e⟩, h1, h2, h3, h4⟩ := h
  exact ⟨⟨nm, own_blk a rfl hg hr', own_blk b rfl hg hr', e⟩, h1, h2, h3, h4.grown hg h4.size (fun j e => Nat.le_trans hB (hr j e).1)⟩
theorem EscInvS.start (w : World) (c d M : Nat) : EscInvS w c d M 0 (((((w.alloc (.cells #[.int .i64 0] 3)).alloc (.cells #[.float .f64 0] 72)).alloc (.cells #[.int .i64 M] 3)).alloc (.cells #[.complex .f32 c d] 32)).alloc (.cells #[.func (.func 76) #[] #[]] 100)) := by
  have new : ∀ (W : World) (C : Array Value) (t : TypeId), (W.alloc (.cells C t)).heap[W.heap.size]? = some (.cells C t (0, 0)) := fun W C t => World.alloc_heap_new W _
  have far : ∀ (W : World) (C : Array Value) (t : TypeId) (k : Nat) (o : Obj), W.heap[k]? = some o → (W.alloc (.cells C t)).heap[k]? = some o := fun W C t k o h => (Below.heap_alloc W _ k (Array.getElem?_eq_some_iff.1 h).1).trans h
  have n0 := new w #[.int .i64 0] 3
  have n1 := new (w.alloc (.cells #[.int .i64 0] 3)) #[.float .f64 0] 72
  have n2 := new ((w.alloc (.cells #[.int .i64 0] 3)).alloc (.cells #[.float .f64 0] 72)) #[.int .i64 M] 3
  have n3 := new (((w.alloc (.cells #[.int .i64 0] 3)).alloc (.cells #[.float .f64 0] 72)).alloc (.cells #[.int .i64 M] 3)) #[.complex .f32 c d] 32
  have n4 := new ((((w.alloc (.cells #[.int .i64 0] 3)).alloc (.cells #[.float .f64 0] 72)).alloc (.cells #[.int .i64 M] 3)).alloc (.cells #[.complex .f32 c d] 32)) #[.func (.func 76) #[] #[]] 100
  simp only [World.size_alloc] at n1 n2 n3 n4
  refine ⟨far _ _ _ _ _ (far _ _ _ _ _ (far _ _ _ _ _ (far _ _ _ _ _ n0))), far _ _ _ _ _ (far _ _ _ _ _ (far _ _ _ _ _ n1)), far _ _ _ _ _ (far _ _ _ _ _ n2), ⟨far _ _ _ _ _ n3, n4, fun j hj => by omega⟩, ?_⟩
  exact (((((Below.refl _ w).alloc (Nat.le_refl _) _).alloc (by simp) _).alloc (by simp; omega) _).alloc (by simp; omega) _).alloc (by simp; omega) _
/-- how the loop is left -/
def EscXS (w : World) (c d M : Nat) (cd : Code) (k : Nat) (W : World) : Prop := (cd = Code.exit 0 ∧ k = M + 1 ∧ EscInvS w c d M k W) ∨ (cd = Code.ret ∧ EscRetS w c d M k W)
theorem EscXS.own {w : World} {c d M B : Nat} (hB : w.heap.size ≤ B) (cd : Code) : OwnFrom B (EscXS w c d M cd) := by
  intro k W W' row h hg hr
  rcases h with ⟨h1, h2, h3⟩ | ⟨h1, h3⟩
  · exact .inl ⟨h1, h2, EscInvS.own hB k W W' row h3 hg hr⟩
  · exact .inr ⟨h1, EscRetS.own hB k W W' row h3 hg hr⟩
set_option maxRecDepth 100000 in
set_option maxHeartbeats 1000000 in
theorem escS_is (c d : Nat) (n : Int) (w : World) : Calls Try.prog 75 #[.complex .f32 c d, .int .i64 n, .func (.func 76) #[] #[]] w (EscS c d n w) := by
  obtain ⟨M, hM, hM4⟩ : ∃ M : Nat, mostN n = M ∧ M ≤ 400 := by
    have := mostN_bd n
    exact ⟨(mostN n).toNat, by omega, by omega⟩
  have HS := Lib.hid (stepsOf_is n)
  rw [hM] at HS
  have H0 := Lib.hid (EscInvS.start w c d M)
  have HM := Lib.hid hM
  clear hM
  refine (callsIn_wide (n := 3)).1 ?_
  refine callsIn_of_wp_marks Try.func75 rfl trivial ?_ rfl
  simp only [Try.ntmps75, List.size_toArray, List.length_cons, List.length_nil, Nat.reduceAdd, Nat.reduceSub, Array.replicate_succ, Array.replicate_zero, List.push_toArray, List.append_toArray, List.nil_append, List.cons_append]
  gi_wp2_with (first | (refine ⟨trivial, ?_⟩; gi_at_call 94; refine (callsIn_wide.2 (HS.out _)).mono ?_; rintro e w1 ⟨rfl, rfl⟩) | (refine ⟨trivial, ?_⟩; gi_at_call 95; refine (callsIn_wide.2 (orbitS_any _ _ _ _)).mono ?_; rintro e w1 ⟨rfl, rfl⟩))
  refine wpIn_scope ?_
  gi_wp2_with (first | (refine ⟨trivial, ?_⟩; gi_at_call 94; refine (callsIn_wide.2 (HS.out _)).mono ?_; rintro e w1 ⟨rfl, rfl⟩) | (refine ⟨trivial, ?_⟩; gi_at_call 95; refine (callsIn_wide.2 (orbitS_any _ _ _ _)).mono ?_; rintro e w1 ⟨rfl, rfl⟩))
  refine wpIn_label ?_
  gi_wp2_with (first | (refine ⟨trivial, ?_⟩; gi_at_call 94; refine (callsIn_wide.2 (HS.out _)).mono ?_; rintro e w1 ⟨rfl, rfl⟩) | (refine ⟨trivial, ?_⟩; gi_at_call 95; refine (callsIn_wide.2 (orbitS_any _ _ _ _)).mono ?_; rintro e w1 ⟨rfl, rfl⟩))
  refine wpIn_iterR rfl (by decide) (gf := 112) (lb := #[.pointer (some ⟨w.heap.size + 1 + 1 + 1 + 1, 0, none⟩), .pointer (some ⟨w.heap.size + 1 + 1 + 1, 0, none⟩)]) ?g0 trivial (enters_of Try.func112 (by kernel_rfl) rfl)
    (orbS_iters _ c d (w.heap.size + 1 + 1 + 1) (M + 1) (by decide) (by omega)) (fun k v h => by obtain ⟨x, y, rfl, -⟩ := h; rfl) (EscInvS w c d M) (EscXS w c d M)
    (EscInvS.own (by simp; omega)) (EscXS.own (by simp; omega)) (fun k A h => h.orb) H0.out
    (fun k v => { tmps := #[.complex .f32 c d, .int .i64 n, .func (.func 76) #[] #[], undef, undef, undef, .pointer (some ⟨w.heap.size, 0, none⟩), .pointer (some ⟨w.heap.size + 1, 0, none⟩), .pointer (some ⟨w.heap.size + 1 + 1, 0, none⟩), v.getD 0 undef, v.getD 1 undef, undef, .int .i64 n, .int .i64 M, .complex .f32 c d, .func (.func 76) #[] #[],
      .func (.func 112) #[] #[.pointer (some ⟨w.heap.size + 1 + 1 + 1 + 1, 0, none⟩), .pointer (some ⟨w.heap.size + 1 + 1 + 1, 0, none⟩)], v.getD 0 undef, v.getD 1 undef, undef, undef, undef, undef, undef, undef, undef, undef, undef, undef, undef], defers := [] })
    ?assign ?body ?done ?stop
  case g0 => rfl
  case assign =>
    rintro l k v W K ⟨x, y, rfl, -⟩ hK
    gi_wp2
    exact hK
  case body =>
    rintro l k v W hk ⟨x, y, rfl, hx, hy, ax, ay⟩ h
    have c0 : W.cell? ⟨w.heap.size + 1 + 1, 0, none⟩ = some (.int .i64 M) := by rw [Lib.cell_of_heap h.las]; rfl
    by_cases hkm : k = M + 1
    · subst hkm
      have HX : Hid (EscXS w c d M (Code.exit 0) (M + 1) W) := .inl ⟨rfl, rfl, h⟩
      clear h ax ay
      gi_wp2
      exact ⟨KeepsFrom.refl _ _, HX.out⟩
    · have hkM : k ≤ M := by omega
      have HH := Lib.hid h
      have HAX := Lib.hid ax
      have HAY := Lib.hid ay
      have hk1 : ((k : Int) ≤ M) := by omega
      clear h ax ay hkm
      gi_wp2_with fail
      refine ⟨trivial, ?_⟩
      refine (CallsIn.inRound l (callsIn_wide.2 (inWidthW_al x y hx hy W))).mono ?_
      rintro e W2 ⟨⟨p, q, rfl, -, -, ap, aq⟩, hd⟩
      have HP := Lib.hid (normC_al ap aq)
      have HD := Lib.hid hd
      clear ap aq hd
      gi_wp2_with fail
      refine ⟨trivial, ?_⟩
      refine (CallsIn.inRound l (callsIn_wide.2 (implNorm_al p q W2))).mono ?_
      rintro e W3 ⟨⟨m, rfl, hm, am⟩, hd⟩
      have HD3 := Lib.hid (HD.out.trans hd)
      have HN : Hid (Al .f64 (normC (widenC (orbS c d k).1) (widenC (orbS c d k).2)) m) := by
        show Al _ _ _
        rw [widenC_al HAX.out, widenC_al HAY.out, HP.out]; exact am
      clear am hd HD
      have I3 := EscInvS.own (c := c) (d := d) (M := M) (Nat.le_refl _) k W W3 none HH.out HD3.out.grown (fun r e => by cases e)
      have HK : Hid (le4 m = okS c d k) := by
        show _ = _
        unfold okS
        exact (le4_al HN.out).symm
      have hb := HK.out
      unfold le4 at hb
      have HKF : Hid (∀ W' B, w.heap.size + 1 < B → (∀ j, j ≠ w.heap.size → j ≠ w.heap.size + 1 → W3.heap[j]? = W'.heap[j]?) → W3.heap.size ≤ W'.heap.size → KeepsFrom B W W') := fun W' B hB h1 h2 => by
        have hh := HD3.out.heap
        refine ⟨by rw [← hh]; exact h2, fun j o hj ho _ => ?_⟩
        rw [← h1 j (by omega) (by omega), hh]; exact ho
      cases ho : okS c d k with
      | false =>
        rw [ho] at hb
        have B0 : Box w w.heap.size #[.int .i64 0] 3 W3 := ⟨I3.r0, I3.old⟩
        have B1 : Box w (w.heap.size + 1) #[.float .f64 0] 72 W3 := ⟨I3.r1, I3.old⟩
        have c0 := B0.cell 0 _ rfl
        have f0 := B0.frozen 0
        have c1 := B1.cell 0 _ rfl
        have f1 := B1.frozen 0
        have D0 := (B0.set (Nat.le_refl _) 0 (.int .i64 k)).other (p := ⟨w.heap.size + 1, 0, none⟩) (by simp) (by simp) (.float .f64 m)
        have D1 := (B1.other (p := ⟨w.heap.size, 0, none⟩) (by simp) (by simp) (.int .i64 k)).set (by simp) 0 (.float .f64 m)
        have HX : Hid (EscXS w c d M Code.ret k ((W3.setCell ⟨w.heap.size, 0, none⟩ (.int .i64 k)).setCell ⟨w.heap.size + 1, 0, none⟩ (.float .f64 m))) := .inr ⟨rfl, ⟨⟨m, D0.blk, D1.blk, hm, HN.out⟩, ho, I3.orb.ok, hkM, D1.old⟩⟩
        have HKK : Hid (∀ B, w.heap.size + 1 < B → KeepsFrom B W ((W3.setCell ⟨w.heap.size, 0, none⟩ (.int .i64 k)).setCell ⟨w.heap.size + 1, 0, none⟩ (.float .f64 m))) := fun B hB => HKF.out _ B hB (fun j h1 h2 => ((Below.heap_setCell _ _ _ _ (by simpa using h2)).trans (Below.heap_setCell _ _ _ _ (by simpa using h1))).symm) (by simp)
        have hlt1 := B1.lt
        clear ho HK HH I3 B0 B1 D0 D1 HKF
        gi_wp2
        exact ⟨HKK.out _ (by simp), HX.out⟩
      | true =>
        rw [ho] at hb
        have HI : Hid (EscInvS w c d M (k + 1) W3) := ⟨I3.r0, I3.r1, I3.las, ⟨I3.orb.num, I3.orb.stp, fun j hj => by
          by_cases e : j = k
          · rw [e]; exact ho
          · exact I3.orb.ok j (by omega)⟩, I3.old⟩
        have HKK := Lib.hid (fun B (hB : w.heap.size + 1 < B) => HKF.out W3 B hB (fun _ _ _ => rfl) (Nat.le_refl _))
        clear ho HK HH I3 HKF
        gi_wp2
        exact ⟨HKK.out _ (by simp), by omega, HI.out⟩
  case done =>
    intro D k W hD hk hf
    exact hf.elim
  case stop =>
    rintro D cd k W hD hk h hdef
    rcases h with ⟨rfl, rfl, h⟩ | ⟨rfl, h⟩
    · have B0 : Box w w.heap.size #[.int .i64 0] 3 W := ⟨h.r0, h.old⟩
      have B1 : Box w (w.heap.size + 1) #[.float .f64 0] 72 W := ⟨h.r1, h.old⟩
      have c0 := B0.cell 0 _ rfl
      have f0 := B0.frozen 0
      have c1 := B1.cell 0 _ rfl
      have f1 := B1.frozen 0
      have hlt1 := B1.lt
      have D0 := (B0.set (Nat.le_refl _) 0 (.int .i64 (-1))).other (p := ⟨w.heap.size + 1, 0, none⟩) (by simp) (by simp) (.float .f64 0)
      have D1 := (B1.other (p := ⟨w.heap.size, 0, none⟩) (by simp) (by simp) (.int .i64 (-1))).set (by simp) 0 (.float .f64 0)
      have HD0 := Lib.hid D0
      have HD1 := Lib.hid D1
      have HO := Lib.hid h.orb.ok
      clear h B0 B1 D0 D1
      gi_wp2
      rw [Exit.noGoto_ret]
      have hDlt : w.heap.size + 1 < D := by simp at hD; omega
      have hdef' : ((W.setCell ⟨w.heap.size, 0, none⟩ (.int .i64 (-1))).setCell ⟨w.heap.size + 1, 0, none⟩ (.float .f64 0)).heap[D]? = some (.deferred (some [])) := ((Below.heap_setCell _ _ _ _ (by simp; omega)).trans (Below.heap_setCell _ _ _ _ (by simp; omega))).trans hdef
      have z0 : (((W.setCell ⟨w.heap.size, 0, none⟩ (.int .i64 (-1))).setCell ⟨w.heap.size + 1, 0, none⟩ (.float .f64 0)).putObj D (.deferred none)).cell? ⟨w.heap.size, 0, none⟩ = some (.int .i64 (-1)) := (World.cell?_of_block (World.putObj_heap_other (by simp; omega))).trans (HD0.out.cell 0 _ rfl)
      have z1 : (((W.setCell ⟨w.heap.size, 0, none⟩ (.int .i64 (-1))).setCell ⟨w.heap.size + 1, 0, none⟩ (.float .f64 0)).putObj D (.deferred none)).cell? ⟨w.heap.size + 1, 0, none⟩ = some (.float .f64 0) := (World.cell?_of_block (World.putObj_heap_other (by simp; omega))).trans (HD1.out.cell 0 _ rfl)
      refine ⟨by simp, .inl ⟨_, _, rfl, run_takeDeferred hdef', ?_⟩⟩
      refine ⟨.tuple #[.int .i64 (-1), .float .f64 0], by simp [results, Try.f75, go_sem, z0, z1], ?_⟩
      refine ⟨⟨-1, 0, rfl, .inr ⟨rfl, fun j hj => HO.out j (by have := HM.out; omega)⟩, by omega, fun h => by omega⟩, ?_⟩
      exact HD1.out.old.grown (grownBy_putObj' _ D _) (by have := HD1.out.old.size; exact this) (fun j e => by cases e; omega)
    · obtain ⟨⟨nm, b0, b1, hnm, hal⟩, hno, hok, hle, hold⟩ := h
      have HB0 : Hid (Box w w.heap.size #[.int .i64 k] 3 W) := ⟨b0, hold⟩
      have HB1 : Hid (Box w (w.heap.size + 1) #[.float .f64 nm] 72 W) := ⟨b1, hold⟩
      have HE : Hid (IsEsc (okS c d) (mostN n) k) := .inl ⟨k, rfl, by have := HM.out; omega, hno, hok⟩
      have HA := Lib.hid hal
      clear b0 b1 hold hal hno hok
      gi_wp2
      rw [Exit.noGoto_ret]
      have hDlt : w.heap.size + 1 < D := by simp at hD; omega
      have z0 : (W.putObj D (.deferred none)).cell? ⟨w.heap.size, 0, none⟩ = some (.int .i64 k) := (World.cell?_of_block (World.putObj_heap_other (by simp; omega))).trans (HB0.out.cell 0 _ rfl)
      have z1 : (W.putObj D (.deferred none)).cell? ⟨w.heap.size + 1, 0, none⟩ = some (.float .f64 nm) := (World.cell?_of_block (World.putObj_heap_other (by simp; omega))).trans (HB1.out.cell 0 _ rfl)
      refine ⟨by simp, .inl ⟨_, _, rfl, run_takeDeferred hdef, ?_⟩⟩
      refine ⟨.tuple #[.int .i64 k, .float .f64 nm], by simp [results, Try.f75, go_sem, z0, z1], ?_⟩
      refine ⟨⟨k, nm, rfl, HE.out, hnm, fun _ => by rw [Int.toNat_natCast]; exact HA.out⟩, ?_⟩
      exact HB1.out.old.grown (grownBy_putObj' _ D _) HB1.out.old.size (fun j e => by cases e; omega)
set_option maxHeartbeats 400000 in
theorem inWidthWW_is (x y : Nat) (w : World) : Calls Try.prog 99 #[.complex .f64 x y] w fun e w' => e = .returned (.complex .f64 x y) ∧ w = w' := by
  go_enter Try.func99, Try.ntmps99
  go_wp2
  go_ret
  exact ⟨rfl, rfl⟩
set_option maxHeartbeats 400000 in
theorem orbitW_any (c d g : Nat) (w : World) : Calls Try.prog 98 #[.complex .f64 c d, .func (.func g) #[] #[]] w fun e w' => e = .returned (.func (.func 114) #[] #[.pointer (some ⟨w.heap.size + 1, 0, none⟩), .pointer (some ⟨w.heap.size, 0, none⟩)]) ∧ (w.alloc (.cells #[.complex .f64 c d] 77)).alloc (.cells #[.func (.func g) #[] #[]] 102) = w' := by
  go_enter Try.func98, Try.ntmps98
  go_wp2
  go_ret
  exact ⟨rfl, rfl⟩
/-- what the iterator asks of the world ahead of round k -/
structure OrbW (Bc : Nat) (c d : Nat) (k : Nat) (A : World) : Prop where
  num : A.heap[Bc]? = some (.cells #[.complex .f64 c d] 77 (0, 0))
  stp : A.heap[Bc + 1]? = some (.cells #[.func (.func 78) #[] #[]] 102 (0, 0))
  ok : ∀ j, j < k → okW c d j = true
def YldW (c d : Nat) (k : Nat) (v : Array Value) : Prop := ∃ x y : Nat, v = #[.int .i64 k, .complex .f64 x y] ∧ Al .f64 (orbW c d k).1 x ∧ Al .f64 (orbW c d k).2 y
set_option maxHeartbeats 1000000 in
theorem orbW_iters (n c d Bc N : Nat) (hn : 1 ≤ n) (hN : N ≤ 1048576) :
    ItersR Fence.wide n Try.prog 114 #[.pointer (some ⟨Bc + 1, 0, none⟩), .pointer (some ⟨Bc, 0, none⟩)] (YldW c d) (fun _ => False) N (OrbW Bc c d) := by
  intro l J Jx W hJb hJg hY hJ0
  refine callsIn_of_wp Try.func114 rfl trivial ?_ rfl
  simp only [Try.ntmps114, List.size_toArray, List.length_cons, List.length_nil, Nat.reduceAdd, Nat.reduceSub, Array.replicate_succ, Array.replicate_zero, List.push_toArray, List.append_toArray, List.nil_append, List.cons_append]
  gi_wp2
  gi_loopw [4, 5] (fun z i wr => ∃ k x y : Nat, k ≤ N ∧ i = .int .i64 k ∧ z = .complex .f64 x y ∧ Hid (Al .f64 (orbW c d k).1 x ∧ Al .f64 (orbW c d k).2 y) ∧ J k wr) (fun _ i _ => (N + 1 - intOf i).toNat)
  case atStart => exact ⟨0, 0, 0, Nat.zero_le _, rfl, rfl, ⟨Al.refl _ _, Al.refl _ _⟩, hJ0⟩
  case round =>
    obtain ⟨k, x, y, hk, rfl, rfl, HA, hJ⟩ := hrel
    obtain ⟨fn, tmps, assign, body, hy', hR⟩ := hY k _ wr hk ⟨x, y, rfl, HA.out.1, HA.out.2⟩ hJ
    gi_wp2
    refine hR.mono ?_
    rintro e W3 (⟨rfl, hkN, hJ3⟩ | ⟨rfl, hJx⟩)
    · have K := hJb _ _ hJ3
      have c0 : W3.cell? ⟨Bc, 0, none⟩ = some (.complex .f64 c d) := by rw [Lib.cell_of_heap K.num]; rfl
      have c1 : W3.cell? ⟨Bc + 1, 0, none⟩ = some (.func (.func 78) #[] #[]) := by rw [Lib.cell_of_heap K.stp]; rfl
      clear K
      gi_wp2_with (refine ⟨trivial, ?_⟩; gi_at_call 78; refine (callsIn_wide.2 (implStepW_al x y c d _)).mono ?_; rintro e W4 ⟨⟨a, b, rfl, ha, hb, aa, ab⟩, hd⟩; have HQ : Hid (Al .f64 (orbW c d (k + 1)).1 a ∧ Al .f64 (orbW c d (k + 1)).2 b) := (by have e := stW_al (p := orbW c d k) (q := (x, y)) (Al.refl .f64 c) (Al.refl .f64 d) HA.out.1 HA.out.2; rw [← e] at aa ab; exact ⟨aa, ab⟩); have HJ4 := Lib.hid (hJg (k + 1) W3 W4 hJ3 hd.grown); clear aa ab hd)
      go_roundw
      case rel => exact ⟨k + 1, a, b, by omega, by go_num, rfl, HQ, HJ4.out⟩
      case measure => simp [intOf]; omega
    · gi_wp2
      go_end0
      exact ⟨⟨_, rfl⟩, .inl ⟨k, hk, hJx⟩⟩
/-- what an escape leaves -/
def EscW (c d : Nat) (n : Int) (w : World) (e : Ending) (w' : World) : Prop :=
  (∃ (k : Int) (nm : Nat), e = .returned (.tuple #[.int .i64 k, .float .f64 nm]) ∧ IsEsc (okW c d) (mostN n) k ∧ nm < 18446744073709551616 ∧ (0 ≤ k → Al .f64 (normC (orbW c d k.toNat).1 (orbW c d k.toNat).2) nm)) ∧ Below w.heap.size w w'
structure EscInvW (w : World) (c d M k : Nat) (W : World) : Prop where
  r0 : W.heap[w.heap.size]? = some (.cells #[.int .i64 0] 3 (0, 0))
  r1 : W.heap[w.heap.size + 1]? = some (.cells #[.float .f64 0] 72 (0, 0))
  las : W.heap[w.heap.size + 1 + 1]? = some (.cells #[.int .i64 M] 3 (0, 0))
  orb : OrbW (w.heap.size + 1 + 1 + 1) c d k W
  old : Below w.heap.size w W
theorem EscInvW.own {w : World} {c d M B : Nat} (hB : w.heap.size ≤ B) : OwnFrom B (EscInvW w c d M) := by
  intro k W W' row h hg hr
  have hr' : ∀ r, row = some r → ∃ o : Obj, W.heap[r]? = some o ∧ o.isCells = false := fun r e => (hr r e).2
  exact ⟨own_blk h.r0 rfl hg hr', own_blk h.r1 rfl hg hr', own_blk h.las rfl hg hr', ⟨own_blk h.orb.num rfl hg hr', own_blk h.orb.stp rfl hg hr', h.orb.ok⟩, h.old.grown hg h.old.size (fun j e => Nat.le_trans hB (hr j e).1)⟩
/-- the round has said what is returned -/
structure EscRetW (w : World) (c d M k : Nat) (W : World) : Prop where
  ex : ∃ nm : Nat, W.heap[w.heap.size]? = some (.cells #[.int .i64 k] 3 (0, 0)) ∧ W.heap[w.heap.size + 1]? = some (.cells #[.float .f64 nm] 72 (0, 0)) ∧ nm < 18446744073709551616 ∧ Al .f64 (normC (orbW c d k).1 (orbW c d k).2) nm
  no : okW c d k = false
  ok : ∀ j, j < k → okW c d j = true
  le : k ≤ M
  old : Below w.heap.size w W
theorem EscRetW.own {w : World} {c d M B : Nat} (hB : w.heap.size ≤ B) : OwnFrom B (EscRetW w c d M) := by
  intro k W W' row h hg hr
  have hr' : ∀ r, row = some r → ∃ o : Obj, W.heap[r]? = some o ∧ o.isCells = false := fun r e => (hr r e).2
  obtain ⟨⟨nm, a, b, e⟩, h1, h2, h3, h4⟩ := h
  exact ⟨⟨nm, own_blk a rfl hg hr', own_blk b rfl hg hr', e⟩, h1, h2, h3, h4.grown hg h4.size (fun j e => Nat.le_trans hB (hr j e).1)⟩
theorem EscInvW.start (w : World) (c d M : Nat) : EscInvW w c d M 0 (((((w.alloc (.cells #[.int .i64 0] 3)).alloc (.cells #[.float .f64 0] 72)).alloc (.cells #[.int .i64 M] 3)).alloc (.cells #[.complex .f64 c d] 77)).alloc (.cells #[.func (.func 78) #[] #[]] 102)) := by
  have new : ∀ (W : World) (C : Array Value) (t : TypeId), (W.alloc (.cells C t)).heap[W.heap.size]? = some (.cells C t (0, 0)) := fun W C t => World.alloc_heap_new W _
  have far : ∀ (W : World) (C : Array Value) (t : TypeId) (k : Nat) (o : Obj), W.heap[k]? = some o → (W.alloc (.cells C t)).heap[k]? = some o := fun W C t k o h => (Below.heap_alloc W _ k (Array.getElem?_eq_some_iff.1 h).1).trans h
  have n0 := new w #[.int .i64 0] 3
  have n1 := new (w.alloc (.cells #[.int .i64 0] 3)) #[.float .f64 0] 72
  have n2 := new ((w.alloc (.cells #[.int .i64 0] 3)).alloc (.cells #[.float .f64 0] 72)) #[.int .i64 M] 3
  have n3 := new (((w.alloc (.cells #[.int .i64 0] 3)).alloc (.cells #[.float .f64 0] 72)).alloc (.cells #[.int .i64 M] 3)) #[.complex .f64 c d] 77
  have n4 := new ((((w.alloc (.cells #[.int .i64 0] 3)).alloc (.cells #[.float .f64 0] 72)).alloc (.cells #[.int .i64 M] 3)).alloc (.cells #[.complex .f64 c d] 77)) #[.func (.func 78) #[] #[]] 102
  simp only [World.size_alloc] at n1 n2 n3 n4
  refine ⟨far _ _ _ _ _ (far _ _ _ _ _ (far _ _ _ _ _ (far _ _ _ _ _ n0))), far _ _ _ _ _ (far _ _ _ _ _ (far _ _ _ _ _ n1)), far _ _ _ _ _ (far _ _ _ _ _ n2), ⟨far _ _ _ _ _ n3, n4, fun j hj => by omega⟩, ?_⟩
  exact (((((Below.refl _ w).alloc (Nat.le_refl _) _).alloc (by simp) _).alloc (by simp; omega) _).alloc (by simp; omega) _).alloc (by simp; omega) _
/-- how the loop is left -/
def EscXW (w : World) (c d M : Nat) (cd : Code) (k : Nat) (W : World) : Prop := (cd = Code.exit 0 ∧ k = M + 1 ∧ EscInvW w c d M k W) ∨ (cd = Code.ret ∧ EscRetW w c d M k W)
theorem EscXW.own {w : World} {c d M B : Nat} (hB : w.heap.size ≤ B) (cd : Code) : OwnFrom B (EscXW w c d M cd) := by
  intro k W W' row h hg hr
  rcases h with ⟨h1, h2, h3⟩ | ⟨h1, h3⟩
  · exact .inl ⟨h1, h2, EscInvW.own hB k W W' row h3 hg hr⟩
  · exact .inr ⟨h1, EscRetW.own hB k W W' row h3 hg hr⟩
set_option maxRecDepth 100000 in
set_option maxHeartbeats 1000000 in
theorem escW_is (c d : Nat) (n : Int) (w : World) : Calls Try.prog 77 #[.complex .f64 c d, .int .i64 n, .func (.func 78) #[] #[]] w (EscW c d n w) := by
  obtain ⟨M, hM, hM4⟩ : ∃ M : Nat, mostN n = M ∧ M ≤ 400 := by
    have := mostN_bd n
    exact ⟨(mostN n).toNat, by omega, by omega⟩
  have HS := Lib.hid (stepsOf_is n)
  rw [hM] at HS
  have H0 := Lib.hid (EscInvW.start w c d M)
  have HM := Lib.hid hM
  clear hM
  refine (callsIn_wide (n := 3)).1 ?_
  refine callsIn_of_wp_marks Try.func77 rfl trivial ?_ rfl
  simp only [Try.ntmps77, List.size_toArray, List.length_cons, List.length_nil, Nat.reduceAdd, Nat.reduceSub, Array.replicate_succ, Array.replicate_zero, List.push_toArray, List.append_toArray, List.nil_append, List.cons_append]
  gi_wp2_with (first | (refine ⟨trivial, ?_⟩; gi_at_call 94; refine (callsIn_wide.2 (HS.out _)).mono ?_; rintro e w1 ⟨rfl, rfl⟩) | (refine ⟨trivial, ?_⟩; gi_at_call 98; refine (callsIn_wide.2 (orbitW_any _ _ _ _)).mono ?_; rintro e w1 ⟨rfl, rfl⟩))
  refine wpIn_scope ?_
  gi_wp2_with (first | (refine ⟨trivial, ?_⟩; gi_at_call 94; refine (callsIn_wide.2 (HS.out _)).mono ?_; rintro e w1 ⟨rfl, rfl⟩) | (refine ⟨trivial, ?_⟩; gi_at_call 98; refine (callsIn_wide.2 (orbitW_any _ _ _ _)).mono ?_; rintro e w1 ⟨rfl, rfl⟩))
  refine wpIn_label ?_
  gi_wp2_with (first | (refine ⟨trivial, ?_⟩; gi_at_call 94; refine (callsIn_wide.2 (HS.out _)).mono ?_; rintro e w1 ⟨rfl, rfl⟩) | (refine ⟨trivial, ?_⟩; gi_at_call 98; refine (callsIn_wide.2 (orbitW_any _ _ _ _)).mono ?_; rintro e w1 ⟨rfl, rfl⟩))
  refine wpIn_iterR rfl (by decide) (gf := 114) (lb := #[.pointer (some ⟨w.heap.size + 1 + 1 + 1 + 1, 0, none⟩), .pointer (some ⟨w.heap.size + 1 + 1 + 1, 0, none⟩)]) ?g0 trivial (enters_of Try.func114 (by kernel_rfl) rfl)
    (orbW_iters _ c d (w.heap.size + 1 + 1 + 1) (M + 1) (by decide) (by omega)) (fun k v h => by obtain ⟨x, y, rfl, -⟩ := h; rfl) (EscInvW w c d M) (EscXW w c d M)
    (EscInvW.own (by simp; omega)) (EscXW.own (by simp; omega)) (fun k A h => h.orb) H0.out
    (fun k v => { tmps := #[.complex .f64 c d, .int .i64 n, .func (.func 78) #[] #[], undef, undef, undef, .pointer (some ⟨w.heap.size, 0, none⟩), .pointer (some ⟨w.heap.size + 1, 0, none⟩), .pointer (some ⟨w.heap.size + 1 + 1, 0, none⟩), v.getD 0 undef, v.getD 1 undef, undef, .int .i64 n, .int .i64 M, .complex .f64 c d, .func (.func 78) #[] #[],
      .func (.func 114) #[] #[.pointer (some ⟨w.heap.size + 1 + 1 + 1 + 1, 0, none⟩), .pointer (some ⟨w.heap.size + 1 + 1 + 1, 0, none⟩)], v.getD 0 undef, v.getD 1 undef, undef, undef, undef, undef, undef, undef, undef, undef, undef, undef, undef], defers := [] })
    ?assign ?body ?done ?stop
  case g0 => rfl
  case assign =>
    rintro l k v W K ⟨x, y, rfl, -⟩ hK
    gi_wp2
    exact hK
  case body =>
    rintro l k v W hk ⟨x, y, rfl, ax, ay⟩ h
    have c0 : W.cell? ⟨w.heap.size + 1 + 1, 0, none⟩ = some (.int .i64 M) := by rw [Lib.cell_of_heap h.las]; rfl
    by_cases hkm : k = M + 1
    · subst hkm
      have HX : Hid (EscXW w c d M (Code.exit 0) (M + 1) W) := .inl ⟨rfl, rfl, h⟩
      clear h ax ay
      gi_wp2
      exact ⟨KeepsFrom.refl _ _, HX.out⟩
    · have hkM : k ≤ M := by omega
      have HH := Lib.hid h
      have HAX := Lib.hid ax
      have HAY := Lib.hid ay
      have hk1 : ((k : Int) ≤ M) := by omega
      clear h ax ay hkm
      gi_wp2_with fail
      refine ⟨trivial, ?_⟩
      refine (CallsIn.inRound l (callsIn_wide.2 (inWidthWW_is x y W))).mono ?_
      rintro e W2 ⟨rfl, rfl⟩
      gi_wp2_with fail
      refine ⟨trivial, ?_⟩
      refine (CallsIn.inRound l (callsIn_wide.2 (implNorm_al x y W))).mono ?_
      rintro e W3 ⟨⟨m, rfl, hm, am⟩, hd⟩
      have HD3 := Lib.hid hd
      have HN : Hid (Al .f64 (normC (orbW c d k).1 (orbW c d k).2) m) := by
        show Al _ _ _
        rw [normC_al HAX.out HAY.out]; exact am
      clear am hd
      have I3 := EscInvW.own (c := c) (d := d) (M := M) (Nat.le_refl _) k W W3 none HH.out HD3.out.grown (fun r e => by cases e)
      have HK : Hid (le4 m = okW c d k) := by
        show _ = _
        unfold okW
        exact (le4_al HN.out).symm
      have hb := HK.out
      unfold le4 at hb
      have HKF : Hid (∀ W' B, w.heap.size + 1 < B → (∀ j, j ≠ w.heap.size → j ≠ w.heap.size + 1 → W3.heap[j]? = W'.heap[j]?) → W3.heap.size ≤ W'.heap.size → KeepsFrom B W W') := fun W' B hB h1 h2 => by
        have hh := HD3.out.heap
        refine ⟨by rw [← hh]; exact h2, fun j o hj ho _ => ?_⟩
        rw [← h1 j (by omega) (by omega), hh]; exact ho
      cases ho : okW c d k with
      | false =>
        rw [ho] at hb
        have B0 : Box w w.heap.size #[.int .i64 0] 3 W3 := ⟨I3.r0, I3.old⟩
        have B1 : Box w (w.heap.size + 1) #[.float .f64 0] 72 W3 := ⟨I3.r1, I3.old⟩
        have c0 := B0.cell 0 _ rfl
        have f0 := B0.frozen 0
        have c1 := B1.cell 0 _ rfl
        have f1 := B1.frozen 0
        have D0 := (B0.set (Nat.le_refl _) 0 (.int .i64 k)).other (p := ⟨w.heap.size + 1, 0, none⟩) (by simp) (by simp) (.float .f64 m)
        have D1 := (B1.other (p := ⟨w.heap.size, 0, none⟩) (by simp) (by simp) (.int .i64 k)).set (by simp) 0 (.float .f64 m)
        have HX : Hid (EscXW w c d M Code.ret k ((W3.setCell ⟨w.heap.size, 0, none⟩ (.int .i64 k)).setCell ⟨w.heap.size + 1, 0, none⟩ (.float .f64 m))) := .inr ⟨rfl, ⟨⟨m, D0.blk, D1.blk, hm, HN.out⟩, ho, I3.orb.ok, hkM, D1.old⟩⟩
        have HKK : Hid (∀ B, w.heap.size + 1 < B → KeepsFrom B W ((W3.setCell ⟨w.heap.size, 0, none⟩ (.int .i64 k)).setCell ⟨w.heap.size + 1, 0, none⟩ (.float .f64 m))) := fun B hB => HKF.out _ B hB (fun j h1 h2 => ((Below.heap_setCell _ _ _ _ (by simpa using h2)).trans (Below.heap_setCell _ _ _ _ (by simpa using h1))).symm) (by simp)
        have hlt1 := B1.lt
        clear ho HK HH I3 B0 B1 D0 D1 HKF
        gi_wp2
        exact ⟨HKK.out _ (by simp), HX.out⟩
      | true =>
        rw [ho] at hb
        have HI : Hid (EscInvW w c d M (k + 1) W3) := ⟨I3.r0, I3.r1, I3.las, ⟨I3.orb.num, I3.orb.stp, fun j hj => by
          by_cases e : j = k
          · rw [e]; exact ho
          · exact I3.orb.ok j (by omega)⟩, I3.old⟩
        have HKK := Lib.hid (fun B (hB : w.heap.size + 1 < B) => HKF.out W3 B hB (fun _ _ _ => rfl) (Nat.le_refl _))
        clear ho HK HH I3 HKF
        gi_wp2
        exact ⟨HKK.out _ (by simp), by omega, HI.out⟩
  case done =>
    intro D k W hD hk hf
    exact hf.elim
  case stop =>
    rintro D cd k W hD hk h hdef
    rcases h with ⟨rfl, rfl, h⟩ | ⟨rfl, h⟩
    · have B0 : Box w w.heap.size #[.int .i64 0] 3 W := ⟨h.r0, h.old⟩
      have B1 : Box w (w.heap.size + 1) #[.float .f64 0] 72 W := ⟨h.r1, h.old⟩
      have c0 := B0.cell 0 _ rfl
      have f0 := B0.frozen 0
      have c1 := B1.cell 0 _ rfl
      have f1 := B1.frozen 0
      have hlt1 := B1.lt
      have D0 := (B0.set (Nat.le_refl _) 0 (.int .i64 (-1))).other (p := ⟨w.heap.size + 1, 0, none⟩) (by simp) (by simp) (.float .f64 0)
      have D1 := (B1.other (p := ⟨w.heap.size, 0, none⟩) (by simp) (by simp) (.int .i64 (-1))).set (by simp) 0 (.float .f64 0)
      have HD0 := Lib.hid D0
      have HD1 := Lib.hid D1
      have HO := Lib.hid h.orb.ok
      clear h B0 B1 D0 D1
      gi_wp2
      rw [Exit.noGoto_ret]
      have hDlt : w.heap.size + 1 < D := by simp at hD; omega
      have hdef' : ((W.setCell ⟨w.heap.size, 0, none⟩ (.int .i64 (-1))).setCell ⟨w.heap.size + 1, 0, none⟩ (.float .f64 0)).heap[D]? = some (.deferred (some [])) := ((Below.heap_setCell _ _ _ _ (by simp; omega)).trans (Below.heap_setCell _ _ _ _ (by simp; omega))).trans hdef
      have z0 : (((W.setCell ⟨w.heap.size, 0, none⟩ (.int .i64 (-1))).setCell ⟨w.heap.size + 1, 0, none⟩ (.float .f64 0)).putObj D (.deferred none)).cell? ⟨w.heap.size, 0, none⟩ = some (.int .i64 (-1)) := (World.cell?_of_block (World.putObj_heap_other (by simp; omega))).trans (HD0.out.cell 0 _ rfl)
      have z1 : (((W.setCell ⟨w.heap.size, 0, none⟩ (.int .i64 (-1))).setCell ⟨w.heap.size + 1, 0, none⟩ (.float .f64 0)).putObj D (.deferred none)).cell? ⟨w.heap.size + 1, 0, none⟩ = some (.float .f64 0) := (World.cell?_of_block (World.putObj_heap_other (by simp; omega))).trans (HD1.out.cell 0 _ rfl)
      refine ⟨by simp, .inl ⟨_, _, rfl, run_takeDeferred hdef', ?_⟩⟩
      refine ⟨.tuple #[.int .i64 (-1), .float .f64 0], by simp [results, Try.f77, go_sem, z0, z1], ?_⟩
      refine ⟨⟨-1, 0, rfl, .inr ⟨rfl, fun j hj => HO.out j (by have := HM.out; omega)⟩, by omega, fun h => by omega⟩, ?_⟩
      exact HD1.out.old.grown (grownBy_putObj' _ D _) (by have := HD1.out.old.size; exact this) (fun j e => by cases e; omega)
    · obtain ⟨⟨nm, b0, b1, hnm, hal⟩, hno, hok, hle, hold⟩ := h
      have HB0 : Hid (Box w w.heap.size #[.int .i64 k] 3 W) := ⟨b0, hold⟩
      have HB1 : Hid (Box w (w.heap.size + 1) #[.float .f64 nm] 72 W) := ⟨b1, hold⟩
      have HE : Hid (IsEsc (okW c d) (mostN n) k) := .inl ⟨k, rfl, by have := HM.out; omega, hno, hok⟩
      have HA := Lib.hid hal
      clear b0 b1 hold hal hno hok
      gi_wp2
      rw [Exit.noGoto_ret]
      have hDlt : w.heap.size + 1 < D := by simp at hD; omega
      have z0 : (W.putObj D (.deferred none)).cell? ⟨w.heap.size, 0, none⟩ = some (.int .i64 k) := (World.cell?_of_block (World.putObj_heap_other (by simp; omega))).trans (HB0.out.cell 0 _ rfl)
      have z1 : (W.putObj D (.deferred none)).cell? ⟨w.heap.size + 1, 0, none⟩ = some (.float .f64 nm) := (World.cell?_of_block (World.putObj_heap_other (by simp; omega))).trans (HB1.out.cell 0 _ rfl)
      refine ⟨by simp, .inl ⟨_, _, rfl, run_takeDeferred hdef, ?_⟩⟩
      refine ⟨.tuple #[.int .i64 k, .float .f64 nm], by simp [results, Try.f77, go_sem, z0, z1], ?_⟩
      refine ⟨⟨k, nm, rfl, HE.out, hnm, fun _ => by rw [Int.toNat_natCast]; exact HA.out⟩, ?_⟩
      exact HB1.out.old.grown (grownBy_putObj' _ D _) HB1.out.old.size (fun j e => by cases e; omega)
theorem orbW_al {c d c' d' : Nat} (hc : Al .f64 c c') (hd : Al .f64 d d') (k : Nat) : orbW c d k = orbW c' d' k := by
  induction k with
  | zero => rfl
  | succ k ih =>
    show stW c d (orbW c d k) = stW c' d' (orbW c' d' k)
    rw [ih]
    exact stW_al hc hd (Al.refl _ _) (Al.refl _ _)
theorem okW_al {c d c' d' : Nat} (hc : Al .f64 c c') (hd : Al .f64 d d') : okW c d = okW c' d' := by
  funext k
  unfold okW
  rw [orbW_al hc hd]
/-- where an orbit escapes, as a number -/
def escN (ok : Nat → Bool) (M : Nat) : Int := match (List.range (M + 1)).find? (fun k => !ok k) with | some k => k | none => -1
theorem escN_is (ok : Nat → Bool) (M : Nat) : IsEsc ok M (escN ok M) := by
  unfold escN
  cases h : (List.range (M + 1)).find? (fun k => !ok k) with
  | none =>
    refine .inr ⟨rfl, fun j hj => ?_⟩
    have := (List.find?_eq_none.1 h) j (List.mem_range.2 (by omega))
    simpa using this
  | some k =>
    have h1 := List.mem_of_find?_eq_some h
    have h2 := List.find?_some h
    rw [List.mem_range] at h1
    refine .inl ⟨k, rfl, by omega, by simpa using h2, fun j hj => ?_⟩
    obtain ⟨_, us, vs, hab, hall⟩ := List.find?_eq_some_iff_append.1 h
    have hl : us.length = k := by
      have h3 : (List.range (M + 1))[us.length]? = some k := by rw [hab]; simp
      rw [List.getElem?_range (by
        have := congrArg List.length hab
        simp at this
        omega)] at h3
      injection h3
    have h4 : j ∈ us := by
      have h5 : (List.range (M + 1))[j]? = some j := List.getElem?_range (by omega)
      rw [hab, List.getElem?_append_left (by omega)] at h5
      exact List.mem_of_getElem? h5
    simpa using hall j h4
theorem IsEsc.num {ok : Nat → Bool} {M : Nat} {r : Int} (h : IsEsc ok M r) : r = escN ok M := h.eq (escN_is ok M)
/-- do the orbits in both widths escape differently -/
def difB (c d : Nat) (n : Int) : Bool := escN (okS c d) (mostN n).toNat != escN (okW (widenC c) (widenC d)) (mostN n).toNat
theorem IsEsc.most {ok : Nat → Bool} {n r : Int} (h : IsEsc ok (mostN n) r) : r = escN ok (mostN n).toNat := by
  have hb := mostN_bd n
  have e : mostN n = ((mostN n).toNat : Nat) := by omega
  rw [e] at h
  exact h.num
set_option maxHeartbeats 400000 in
theorem implEscS_is (c d : Nat) (n : Int) (w : World) : Calls Try.prog 57 #[.complex .f32 c d, .int .i64 n] w fun e w' => e = .returned (.int .i64 (escN (okS c d) (mostN n).toNat)) ∧ Below w.heap.size w w' := by
  go_enter Try.func57, Try.ntmps57
  go_wp2_with fail
  refine (escS_is c d n _).mono ?_
  rintro e w1 ⟨⟨k, nm, rfl, hk, -, -⟩, hd⟩
  have HK := Lib.hid hk.most
  clear hk
  go_wp2
  go_ret
  exact ⟨ret_int HK.out, hd⟩
set_option maxHeartbeats 400000 in
theorem implEscW_is (c d : Nat) (n : Int) (w : World) : Calls Try.prog 58 #[.complex .f64 c d, .int .i64 n] w fun e w' => e = .returned (.int .i64 (escN (okW c d) (mostN n).toNat)) ∧ Below w.heap.size w w' := by
  go_enter Try.func58, Try.ntmps58
  go_wp2_with fail
  refine (escW_is c d n _).mono ?_
  rintro e w1 ⟨⟨k, nm, rfl, hk, -, -⟩, hd⟩
  have HK := Lib.hid hk.most
  clear hk
  go_wp2
  go_ret
  exact ⟨ret_int HK.out, hd⟩
set_option maxHeartbeats 400000 in
theorem implDiffer_is (c d : Nat) (n : Int) (hc : c < 4294967296) (hd : d < 4294967296) (w : World) : Calls Try.prog 36 #[.complex .f32 c d, .int .i64 n] w fun e w' => e = .returned (.bool (difB c d n)) ∧ Below w.heap.size w w' := by
  have HI := Lib.hid (implWiden_al c d hc hd)
  have HD : Hid (difB c d n = (escN (okS c d) (mostN n).toNat != escN (okW (widenC c) (widenC d)) (mostN n).toNat)) := rfl
  clear hc hd
  go_enter Try.func36, Try.ntmps36
  go_wp2_with fail
  refine (implEscS_is c d n _).mono ?_
  rintro e w1 ⟨rfl, hd1⟩
  have H1 := Lib.hid hd1
  clear hd1
  generalize escN (okS c d) (mostN n).toNat = r at *
  go_wp2_with fail
  refine (HI.out _).mono ?_
  rintro e w2 ⟨⟨p, q, rfl, -, -, ap, aq⟩, hd2⟩
  have H2 := Lib.hid (H1.out.trans ((hd2.below w1.heap.size).mono H1.out.size))
  have HO := Lib.hid (okW_al ap aq)
  clear ap aq hd2
  go_wp2_with fail
  refine (implEscW_is p q n _).mono ?_
  rintro e w3 ⟨rfl, hd3⟩
  rw [← HO.out]
  have H3 := Lib.hid (H2.out.trans (hd3.mono H2.out.size))
  clear hd3
  generalize escN (okW (widenC c) (widenC d)) (mostN n).toNat = s at *
  go_wp2
  go_ret
  exact ⟨ret_bool HD.out.symm, H3.out⟩
set_option maxHeartbeats 400000 in
theorem specDiffer_is (c d : Nat) (n : Int) (hc : c < 4294967296) (hd : d < 4294967296) (w : World) : Calls Try.prog 55 #[.complex .f32 c d, .int .i64 n] w fun e w' => e = .returned (.bool (difB c d n)) ∧ Drw w w' := by
  have HD : Hid (difB c d n = (escN (okS c d) (mostN n).toNat != escN (okW (widenC c) (widenC d)) (mostN n).toNat)) := rfl
  go_enter Try.func55, Try.ntmps55
  go_wp2_with fail
  refine (specEscS_is c d n _).mono ?_
  rintro e w1 ⟨⟨k, rfl, hk⟩, hd1⟩
  have H1 := Lib.hid hd1
  have HK := Lib.hid hk.most
  obtain ⟨p, q, w2, h1, -, -, d1, ap, aq⟩ := Flo.cwiden_al (P := Try.prog) 32 77 (by kernel_rfl) Try.underlying77 c d hc hd w1
  have H2 := Lib.hid (H1.out.trans d1)
  have HO := Lib.hid (okW_al ap aq)
  clear hd1 hk d1 ap aq hc hd
  go_wp2_with fail
  refine (specEscW_is p q n _).mono ?_
  rintro e w3 ⟨⟨l, rfl, hl⟩, hd3⟩
  rw [← HO.out] at hl
  have HL := Lib.hid hl.most
  have H3 := Lib.hid (H2.out.trans hd3)
  clear hd3 hl
  go_wp2
  go_ret
  exact ⟨ret_bool (by rw [HD.out, ← HK.out, ← HL.out]), H3.out⟩
end Go.Proofs.Ytdfoobemgdiobaa
