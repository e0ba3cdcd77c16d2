/- Merged texts: PmkD. -/
import Derived.Test.YtalmhbcmagjheaaJ19
import Derived.Deep.RegionHeld3
section
/- Walks: the reference's PlanMake, for what it leaves. -/
namespace Go.Proofs.Ytalmhbcmagjheaa
open Go.RowKit Flo
attribute [local go_sem ↓] Go.wp_at_zero Go.wp_at_succ
attribute [local go_sem] run_store_float run_store_complex

theorem infoS : (Try.prog.info? 9).map (fun i => (i.zero, i.size, i.bytes)) = some (some (.string ⟨#[]⟩), 1, 16) := by kernel_rfl
/-- what PlanMake returns -/
def MadeRes (w : World) (e : Ending) (w' : World) : Prop :=
  Below w.heap.size w w' ∧ (e = .returned (.tuple #[.agg #[.slice none 0 0, .slice none 0 0, .int .i64 0, .int .i64 0, .int .i64 0], .bool false]) ∨
    ∃ (gp cp g cap n : Nat) (P : List ByteArray) (ms : List Int) (p q r : Int), e = .returned (.tuple #[.agg #[.slice (some ⟨gp, 0, none⟩) n cp, .slice (some ⟨g, 0, none⟩) n cap, .int .i64 p, .int .i64 q, .int .i64 r], .bool true]) ∧
      w'.ownsRow w.heap.size 9 1 (.slice (some ⟨gp, 0, none⟩) n cp) n (P.map Value.string) ∧ w'.ownsRow w.heap.size 3 1 (.slice (some ⟨g, 0, none⟩) n cap) n (ms.map intV) ∧ (∀ s, s ∈ P → s.size ≤ 40) ∧ 0 < n ∧ n ≤ 1000)
set_option maxRecDepth 100000 in
set_option maxHeartbeats 8000000 in
theorem planMake_any (cx cy : Nat) (deep size most budget : Int) (hx : cx < 4294967296) (hy : cy < 4294967296) (w : World) :
    Calls Try.prog 38 #[.complex .f32 cx cy, .int .i64 deep, .int .i64 size, .int .i64 most, .int .i64 budget] w (MadeRes w) := by
  obtain ⟨iT, hiT, hzT0, hzT1, hzT2⟩ := info_parts infoT
  obtain ⟨iS, hiS, hzS0, hzS1, hzS2⟩ := info_parts infoS
  have R := Box.new w #[.slice none 0 0, .slice none 0 0, .int .i64 0, .int .i64 0, .int .i64 0] 26
  have HR := Lib.hid R
  clear R
  go_enter Try.func38, Try.ntmps38
  go_wp2_with fail
  refine (tileMake_one cx cy deep size most hx hy _).mono ?_
  rintro e w1 ⟨⟨x, y, d, s, a1, n1, c1, a2, n2, c2, ok, rfl, hM⟩, hb1⟩
  have HR1 := Lib.hid ((HR.out.step hb1).alloc (.cells #[.complex .f32 x y, .int .i64 d, .int .i64 s, .slice a1 n1 c1, .slice a2 n2 c2] 37))
  have X1 := (Box.new w1 #[.complex .f32 x y, .int .i64 d, .int .i64 s, .slice a1 n1 c1, .slice a2 n2 c2] 37).up (HR.out.step hb1).old
  have HX1 := Lib.hid X1
  have hw1 : w.heap.size < w1.heap.size := (HR.out.step hb1).lt
  have hO : Hid (ok = true → ∃ t, ([.complex .f32 x y, .int .i64 d, .int .i64 s, .slice a1 n1 c1, .slice a2 n2 c2] = t.cells) ∧ TOwn w.heap.size t (w1.alloc (.cells #[.complex .f32 x y, .int .i64 d, .int .i64 s, .slice a1 n1 c1, .slice a2 n2 c2] 37))) := fun hok => by
    obtain ⟨t, -, -, -, -, ht, hO⟩ := hM.2 hok
    refine ⟨t, ?_, (hO.mono (B' := w.heap.size) (by simp)).step ((Below.refl _ _).alloc (Nat.le_refl _) (.cells #[.complex .f32 x y, .int .i64 d, .int .i64 s, .slice a1 n1 c1, .slice a2 n2 c2] 37))⟩
    injection ht with ht
    exact congrArg Array.toList ht
  clear hM hb1 HR X1
  go_upto_region 2 with fail
  generalize w1.alloc (.cells #[.complex .f32 x y, .int .i64 d, .int .i64 s, .slice a1 n1 c1, .slice a2 n2 c2] 37) = wa at *
  generalize w1.heap.size = tb at *
  obtain ⟨r0, r1, r2, r3, r4⟩ := HR1.out.cells5
  obtain ⟨f0, f1, f2, f3, f4⟩ := HR1.out.free5
  cases ok with
  | false =>
    clear HX1 hO
    go_wp2
    exact bodyPost_ret (v := .tuple #[.agg #[.slice none 0 0, .slice none 0 0, .int .i64 0, .int .i64 0, .int .i64 0], .bool false]) (by simp [results, Try.f38, go_sem, r0, r1, r2, r3, r4]) rfl ⟨set5 HR1.out.old (Nat.le_refl _) _ _ _ _ _, .inl rfl⟩
  | true =>
    obtain ⟨t, ht, hO'⟩ := hO.out rfl
    have HTC := Lib.hid ht
    have HO := Lib.hid hO'
    obtain ⟨x0, x1, x2, x3, x4⟩ := HX1.out.cells5
    clear ht hO' hO
    go_wp2_with fail
    refine (l6In_any _ _ _ _).mono ?_
    rintro e w2 ⟨rfl, rfl⟩
    cases hin : inB budget 0 30 with
    | false =>
      clear hin
      go_wp2
      exact bodyPost_ret (v := .tuple #[.agg #[.slice none 0 0, .slice none 0 0, .int .i64 0, .int .i64 0, .int .i64 0], .bool false]) (by simp [results, Try.f38, go_sem, r0, r1, r2, r3, r4]) rfl ⟨set5 HR1.out.old (Nat.le_refl _) _ _ _ _ _, .inl rfl⟩
    | true =>
      have hbud : 0 ≤ budget ∧ budget ≤ 30 := by
        unfold inB at hin
        simpa only [Bool.and_eq_true, decide_eq_true_eq] using hin
      obtain ⟨bd, rfl⟩ := Int.eq_ofNat_of_zero_le hbud.1
      have hbd : bd ≤ 30 := by omega
      clear hin hbud
      go_upto_region 6 with fail
      have HK : Hid (PK w 0 [t] [⟨#[]⟩] (.slice (some ⟨wa.heap.size, 0, none⟩) 1 1) (.slice (some ⟨wa.heap.size + 1, 0, none⟩) 1 1) ((wa.alloc (.cells #[.complex .f32 x y, .int .i64 d, .int .i64 s, .slice a1 n1 c1, .slice a2 n2 c2] 37)).alloc (.cells #[.string ⟨#[]⟩] 9))) := by
        have hs := HR1.out.old.size
        have T := World.ownsRow_lit (e := 37) (size := 5) (base := w.heap.size) wa #[.complex .f32 x y, .int .i64 d, .int .i64 s, .slice a1 n1 c1, .slice a2 n2 c2] 1 hs (by decide) rfl
        have S := World.ownsRow_lit (e := 9) (size := 1) (base := w.heap.size) (wa.alloc (.cells #[.complex .f32 x y, .int .i64 d, .int .i64 s, .slice a1 n1 c1, .slice a2 n2 c2] 37)) #[.string ⟨#[]⟩] 1 (by simp; omega) (by decide) rfl
        rw [World.size_alloc] at S
        refine ⟨(HR1.out.alloc _).alloc _, ⟨?_, fun u hu => ?_⟩, S, ?_, by simp, by simp⟩
        · have e : cellsL [t] = [.complex .f32 x y, .int .i64 d, .int .i64 s, .slice a1 n1 c1, .slice a2 n2 c2] := by
            rw [HTC.out]; show t.cells ++ [] = _; rw [List.append_nil]
          rw [e]
          exact T.alloc _
        · obtain rfl : u = t := by simpa using hu
          exact (HO.out.step ((Below.refl _ _).alloc (Nat.le_refl _) _)).step ((Below.refl _ _).alloc (Nat.le_refl _) _)
        · intro u hu
          obtain rfl : u = ⟨#[]⟩ := by simpa using hu
          exact Nat.le_refl _
      generalize (wa.alloc (.cells #[.complex .f32 x y, .int .i64 d, .int .i64 s, .slice a1 n1 c1, .slice a2 n2 c2] 37)).alloc (.cells #[.string ⟨#[]⟩] 9) = wb at *
      generalize wa.heap.size + 1 = gp0 at *
      generalize wa.heap.size = g0 at *
      clear HR1 HX1 HO HTC r0 r1 r2 r3 r4 f0 f1 f2 f3 f4 x0 x1 x2 x3 x4 hw1
      go_wp2
      go_loopw [14, 15, 16] (fun lv pv i wr => ∃ (m ln g cap gp cp : Nat) (L : List TRec) (P : List ByteArray), m ≤ bd ∧ i = .int .i64 m ∧ lv = .slice (some ⟨g, 0, none⟩) ln cap ∧ pv = .slice (some ⟨gp, 0, none⟩) ln cp ∧ Hid (L.length = ln) ∧ Hid (PK w m L P (.slice (some ⟨g, 0, none⟩) ln cap) (.slice (some ⟨gp, 0, none⟩) ln cp) wr)) (fun _ _ i _ => (bd - intOf i).toNat)
      case atStart => exact ⟨0, 1, g0, 1, gp0, 1, [t], [⟨#[]⟩], by omega, rfl, rfl, rfl, rfl, HK⟩
      case round =>
        clear HK
        obtain ⟨m, ln, g, cap, gp, cp, L, P, hm, rfl, rfl, rfl, HLN, HK⟩ := hrel
        have hln : ln ≤ 91 := by have := HK.out.lim; have := HLN.out; omega
        have hln1 : 1 ≤ ln := by have := HK.out.pos; have := HLN.out; omega
        by_cases hlt : m < bd
        · have CB := l8Best_any w.heap.size g cap (L.map JT.of) (by rw [List.length_map, HLN.out]; omega) (fun u hu => by
            obtain ⟨v, hv, rfl⟩ := List.mem_map.1 hu
            exact (HK.out.T.own v hv).well) wr (TList.jin (by rw [HLN.out]; exact HK.out.T))
          rw [List.length_map, HLN.out] at CB
          replace CB := Lib.hid CB
          go_wp2_with fail
          refine CB.out.mono ?_
          rintro e w3 ⟨⟨b, rfl, hb1, hb2⟩, hd⟩
          have HK3 := Lib.hid (HK.out.step hd)
          clear CB hd HK
          by_cases hneg : b < 0
          · have e1 : decide (b < 0) = true := decide_eq_true hneg
            clear hneg hb1 hb2
            have CT := l8Told_any w.heap.size g cap (L.map JT.of) (by rw [List.length_map, HLN.out]; omega) (fun u hu => by
              obtain ⟨v, hv, rfl⟩ := List.mem_map.1 hu
              exact (HK3.out.T.own v hv).well) (some ⟨gp, 0, none⟩) ln cp w3 (TList.jin (by rw [HLN.out]; exact HK3.out.T))
            rw [List.length_map, HLN.out] at CT
            replace CT := Lib.hid CT
            go_wp2_with fail
            refine CT.out.mono ?_
            rintro e wz ⟨hdz, gz, capz, msz, pz, qz, rz, rfl, hoz⟩
            have HKZ := Lib.hid (HK3.out.step hdz)
            have HOZ := Lib.hid (ownsRow_mono hoz HK3.out.R.old.size)
            obtain ⟨r0, r1, r2, r3, r4⟩ := HKZ.out.R.cells5
            obtain ⟨f0, f1, f2, f3, f4⟩ := HKZ.out.R.free5
            have hSZ := HKZ.out.S
            rw [HLN.out] at hSZ
            have HSZ := Lib.hid hSZ
            clear hSZ CT hdz hoz
            go_wp2
            exact bodyPost_ret (v := .tuple #[.agg #[.slice (some ⟨gp, 0, none⟩) ln cp, .slice (some ⟨gz, 0, none⟩) ln capz, .int .i64 pz, .int .i64 qz, .int .i64 rz], .bool true]) (by simp [results, Try.f38, go_sem, r0, r1, r2, r3, r4]) rfl ⟨set5 HKZ.out.R.old (Nat.le_refl _) _ _ _ _ _, .inr ⟨gp, cp, gz, capz, ln, P, msz, pz, qz, rz, rfl, ownsRow_box5 HSZ.out HKZ.out.R (Nat.le_refl _) (by decide) _ _ _ _ _, ownsRow_box5 HOZ.out HKZ.out.R (Nat.le_refl _) (by decide) _ _ _ _ _, fun u hu => by have := HKZ.out.sz u hu; omega, by omega, by omega⟩⟩
          · obtain ⟨k, rfl⟩ := Int.eq_ofNat_of_zero_le (show 0 ≤ b by omega)
            have e1 : decide ((k : Int) < 0) = false := decide_eq_false hneg
            have hk : k < ln := by omega
            obtain ⟨tk, htk⟩ : ∃ tk, L[k]? = some tk := ⟨_, List.getElem?_eq_getElem (by have := HLN.out; omega)⟩
            have TK := HK3.out.T.own tk (List.mem_of_getElem? htk)
            obtain ⟨p0, p1, p2, p3, p4⟩ := TList.cells5 (L := L) (by rw [HLN.out]; exact HK3.out.T) htk
            have hpl := TK.pl
            obtain ⟨dk, hdk⟩ := Int.eq_ofNat_of_zero_le (placeB_bd hpl).1
            rw [hdk] at p1 hpl
            have CS := Lib.hid (tileSplit_any tk.cx tk.cy dk tk.size most TK.bx TK.by1 hpl (some ⟨tk.gs, 0, none⟩) (some ⟨tk.gm, 0, none⟩) tk.xs.length tk.cs tk.cm tk.ys (by have h1 := TK.made.ly; have h2 := placeB_bd hpl; unfold TRec.n at h1; have h9 : tk.size.toNat * tk.size.toNat ≤ 8 * 8 := Nat.mul_le_mul (by omega) (by omega); omega) w3 (sl_of_own TK.made.M))
            clear hneg TK htk hpl hdk hb1 hb2
            go_wp2_with fail
            refine CS.out.mono ?_
            intro e w4 h4
            obtain ⟨v4, ok, rfl, hok, hd4⟩ := h4.one
            have HK4 := Lib.hid (HK3.out.step hd4)
            clear CS h4 p0 p1 p2 p3 p4
            cases ok with
            | false =>
              obtain ⟨r0, r1, r2, r3, r4⟩ := HK4.out.R.cells5
              obtain ⟨f0, f1, f2, f3, f4⟩ := HK4.out.R.free5
              clear hok hd4
              go_wp2
              exact bodyPost_ret (v := .tuple #[.agg #[.slice none 0 0, .slice none 0 0, .int .i64 0, .int .i64 0, .int .i64 0], .bool false]) (by simp [results, Try.f38, go_sem, r0, r1, r2, r3, r4]) rfl ⟨set5 HK4.out.R.old (Nat.le_refl _) _ _ _ _ _, .inl rfl⟩
            | true =>
              obtain ⟨L4, h4, hl4⟩ := hok rfl
              obtain ⟨g4, cap4, hv4, -, hcap4⟩ := ownsRow_form h4.row (by omega)
              rw [hl4] at hv4 hcap4
              subst hv4
              have H4 := Lib.hid (h4.mono (B' := w.heap.size) (by have := HK3.out.R.old.size; omega))
              have HL4 := Lib.hid hl4
              clear hok h4 hd4 HK3
              obtain ⟨sk, hsk⟩ : ∃ sk, P[k]? = some sk := ⟨_, List.getElem?_eq_getElem (by have := HLN.out; have := HK4.out.plen; omega)⟩
              obtain ⟨sz, hsz⟩ : ∃ sz, sk.size = sz := ⟨_, rfl⟩
              have hss : sz ≤ 30 := by have := HK4.out.sz sk (List.mem_of_getElem? hsk); omega
              have hcs : w4.cell? ⟨gp, k, none⟩ = some (.string sk) := by
                have S4 := HK4.out.S
                rw [HLN.out] at S4
                have h1 := S4.cellAt k (by omega)
                rw [h1, List.getElem?_map, hsk]; rfl
              have HSK := Lib.hid hsk
              have b5 : (k : Int) < ln := by omega
              have b6 : (0 : Int) ≤ k := by omega
              have A0 := fun W : World => run_string_add_sum (P := Try.prog) W sk ⟨#[48]⟩ (by rw [hsz]; show sz + 1 ≤ _; omega)
              have A1 := fun W : World => run_string_add_sum (P := Try.prog) W sk ⟨#[49]⟩ (by rw [hsz]; show sz + 1 ≤ _; omega)
              have A2 := fun W : World => run_string_add_sum (P := Try.prog) W sk ⟨#[50]⟩ (by rw [hsz]; show sz + 1 ≤ _; omega)
              have A3 := fun W : World => run_string_add_sum (P := Try.prog) W sk ⟨#[51]⟩ (by rw [hsz]; show sz + 1 ≤ _; omega)
              have HZS : Hid (∀ c : UInt8, (sk ++ ⟨#[c]⟩ : ByteArray).size ≤ m + 1) := fun c => by
                have h1 := HK4.out.sz sk (List.mem_of_getElem? hsk)
                rw [ByteArray.size_append]
                show sk.size + 1 ≤ _
                omega
              have HZ4 := Lib.hid (And.intro (HZS.out 48) (And.intro (HZS.out 49) (And.intro (HZS.out 50) (HZS.out 51))))
              generalize sk ++ ⟨#[48]⟩ = s0 at *
              generalize sk ++ ⟨#[49]⟩ = s1 at *
              generalize sk ++ ⟨#[50]⟩ = s2 at *
              generalize sk ++ ⟨#[51]⟩ = s3 at *
              clear hl4 hsk hsz HZS
              go_upto_region 14 with fail
              go_region_held3 (fun w' => w'.cell? ⟨gp, k, none⟩ = some (.string sk)) (go_keep) (fail)
              have X5 := (Box.new w4 #[.string s0, .string s1, .string s2, .string s3] 9).step ((Drw.refl _).drew.below _)
              have hd5 : Below w4.heap.size w4 (w4.alloc (.cells #[.string s0, .string s1, .string s2, .string s3] 9)).drew := X5.old
              have HK5 := Lib.hid (HK4.out.step hd5)
              have H45 := Lib.hid (H4.out.step hd5)
              have HX5 := Lib.hid X5
              clear X5 hd5 HK4 H4 hcs A0 A1 A2 A3
              go_upto_region 15 with fail
              generalize (w4.alloc (.cells #[.string s0, .string s1, .string s2, .string s3] 9)).drew = w5 at *
              generalize w4.heap.size = nb at *
              have hcap : ln ≤ cap := own_cap (by have := HLN.out; omega) HK5.out.T.row
              have hcp : ln ≤ cp := own_cap (by have := HLN.out; omega) HK5.out.S
              have i1 : (k : Int) ≤ cap := by omega
              have i2 : (k : Int) + 1 ≤ ln := by omega
              have i3 : (0 : Int) ≤ (k : Int) + 1 := by omega
              have i4 : (ln : Int) ≤ cap := by omega
              have i5 : IntKind.i64.wrap ((k : Int) + 1) = (k : Int) + 1 := IntWalk.i64_in _ (by omega)
              have j1 : (k : Int) ≤ cp := by omega
              have j4 : (ln : Int) ≤ cp := by omega
              by_cases hcz : cap = k + 1
              · have HLE0 : Hid (ln ≤ k + 1) := (by omega : ln ≤ k + 1)
                replace hcz : k + 1 = cap := hcz.symm
                have HB1 : Hid ((cellsL (L.take k)).length = k * 5 ∧ (∀ W, Below w5.heap.size w5 W → ∀ j u, (cellsL (L.take k))[j]? = some u → W.cell? ((⟨g, 0, none⟩ : Addr).add j) = some u) ∧ ∀ u ∈ cellsL (L.take k), u.oneCell' = true) := tl_take HK5.out.T HLN.out (by omega)
                have HB2 : Hid ((cellsL L4).length = 4 * 5 ∧ (∀ W, Below w5.heap.size w5 W → ∀ j u, (cellsL L4)[j]? = some u → W.cell? ((⟨g4, 0, none⟩ : Addr).add j) = some u) ∧ ∀ u ∈ cellsL L4, u.oneCell' = true) := tl_all H45.out HL4.out
                have HB3 : Hid ((cellsL (L.drop (k + 1))).length = 0 * 5 ∧ (∀ W, Below w5.heap.size w5 W → ∀ j u, (cellsL (L.drop (k + 1)))[j]? = some u → W.cell? ((⟨g, 0, none⟩ : Addr).add j) = some u) ∧ ∀ u ∈ cellsL (L.drop (k + 1)), u.oneCell' = true) := (by have e0 : ln - (k + 1) = 0 := (by omega); have h0 := tl_end (g := g) (w := w5) HLN.out HLE0.out; rwa [e0] at h0)
                go_region_law (first
                  | (refine step_append_own' _ (by rfl) _ _ _ (by rfl) w5.heap.size 37 iT _ 5 72 Try.underlying32 hiT hzT0 hzT1 hzT2 rfl (by omega) _ 0 [] (by rfl) (ownsRow_step (World.ownsRow_lit (e := 37) (size := 5) (base := w5.heap.size) w5 #[] 0 (Nat.le_refl _) (by decide) rfl) ((Drw.refl _).drew.below _)) ⟨g, 0, none⟩ k cap (cellsL (L.take k)) (by rfl) HB1.out.1 (HB1.out.2.1 _ (((Below.refl _ _).alloc (Nat.le_refl _) _).drew)) HB1.out.2.2 (by unfold maxLen; omega) (by omega) (by simp) ?_
                     intro v1 w6 hown1 hg1
                     have B1 := Lib.hid ((((Below.refl w5.heap.size w5).alloc (Nat.le_refl _) (.cells #[] 37)).drew).grown hg1 (by simp) (fun j hj => by simp only [Value.ownBlock, Option.some.injEq] at hj; omega)))
                  | (refine step_append_own' _ (by rfl) _ _ _ (by rfl) w5.heap.size 37 iT _ 5 72 Try.underlying32 hiT hzT0 hzT1 hzT2 rfl (by omega) _ (0 + k) _ (by rfl) hown1 ⟨g4, 0, none⟩ 4 cap4 (cellsL L4) (by rfl) HB2.out.1 (HB2.out.2.1 _ B1.out) HB2.out.2.2 (by unfold maxLen; omega) (by omega) B1.out.size ?_
                     intro v2 w7 hown2 hg2
                     have B2 := Lib.hid (B1.out.grown hg2 B1.out.size (fun j hj => (hown1.lt j hj).1)))
                  | (refine step_append_own' _ (by rfl) _ _ _ (by rfl) w5.heap.size 37 iT _ 5 72 Try.underlying32 hiT hzT0 hzT1 hzT2 rfl (by omega) _ (0 + k + 4) _ (by rfl) hown2 _ 0 _ (cellsL (L.drop (k + 1))) (by rfl) HB3.out.1 (HB3.out.2.1 _ B2.out) HB3.out.2.2 (by unfold maxLen; omega) (by omega) B2.out.size ?_
                     intro lv9 wl hown3 hg3
                     have B3 := Lib.hid (B2.out.grown hg3 B2.out.size (fun j hj => (hown2.lt j hj).1))
                     have O3 := Lib.hid hown3
                     clear hown1 hown2 hown3 hg1 hg2 hg3 B1 B2))
                all_goals
                  have O4 := O3.out
                  rw [show 0 + k + 4 + 0 = 0 + k + 4 + (ln - (k + 1)) by omega] at O4
                  have HT8 : Hid (TList w.heap.size (L.take k ++ L4 ++ L.drop (k + 1)) lv9 wl) := tl_cat HK5.out.T H45.out B3.out HLN.out HL4.out (by omega) (by have := HK5.out.R.old.size; omega) O4
                  have HLL : Hid ((L.take k ++ L4 ++ L.drop (k + 1)).length = ln + 3) := by
                    show _ = _
                    rw [List.length_append, List.length_append, List.length_take, List.length_drop, HL4.out, HLN.out, Nat.min_eq_left (by omega)]; omega
                  have HSR : Hid (wl.ownsRow w.heap.size 9 1 (.slice (some ⟨gp, 0, none⟩) ln cp) ln (P.map Value.string)) := by
                    have := ownsRow_step HK5.out.S B3.out
                    rwa [HLN.out] at this
                  have HRR := Lib.hid (HK5.out.R.step B3.out)
                  have HSZ := Lib.hid HK5.out.sz
                  have HLIM : Hid (ln ≤ 1 + 3 * m) := by have := HK5.out.lim; rwa [HLN.out] at this
                  have HX8 := Lib.hid (HX5.out.step B3.out)
                  have hrow := HT8.out.row
                  rw [HLL.out] at hrow
                  obtain ⟨gl, capl, hv3, -, -⟩ := ownsRow_form hrow (by omega)
                  clear O4 hrow HB1 HB2 HB3 HK5 HX5 H45 B3 O3 hcz
                  subst hv3
                  go_upto_region 16 with fail
                  by_cases hcq : cp = k + 1
                  · have HLE : Hid (ln ≤ k + 1) := (by omega : ln ≤ k + 1)
                    replace hcq : k + 1 = cp := hcq.symm
                    have HB1 : Hid (((P.map Value.string).take k).length = k * 1 ∧ (∀ W, Below wl.heap.size wl W → ∀ j u, ((P.map Value.string).take k)[j]? = some u → W.cell? ((⟨gp, 0, none⟩ : Addr).add j) = some u) ∧ ∀ u ∈ (P.map Value.string).take k, u.oneCell' = true) := st_take HSR.out (by omega) (strs_one P)
                    have HB2 : Hid (([.string s0, .string s1, .string s2, .string s3] : List Value).length = 4 * 1 ∧ (∀ W, Below wl.heap.size wl W → ∀ j u, ([.string s0, .string s1, .string s2, .string s3] : List Value)[j]? = some u → W.cell? ((⟨nb, 0, none⟩ : Addr).add j) = some u) ∧ ∀ u ∈ ([.string s0, .string s1, .string s2, .string s3] : List Value), u.oneCell' = true) := st_four HX8.out
                    have HB3 : Hid (((P.map Value.string).drop (k + 1)).length = 0 * 1 ∧ (∀ W, Below wl.heap.size wl W → ∀ j u, ((P.map Value.string).drop (k + 1))[j]? = some u → W.cell? ((⟨gp, 0, none⟩ : Addr).add j) = some u) ∧ ∀ u ∈ (P.map Value.string).drop (k + 1), u.oneCell' = true) := (by have e0 : ln - (k + 1) = 0 := (by omega); have h0 := st_end (g := gp) (w := wl) (show (P.map Value.string).length = ln by have := HSR.out.1; rwa [Nat.mul_one] at this) HLE.out; rwa [e0] at h0)
                    go_region_law (first
                      | (refine step_append_own' _ (by rfl) _ _ _ (by rfl) wl.heap.size 9 iS _ 1 16 Try.underlying23 hiS hzS0 hzS1 hzS2 rfl (by omega) _ 0 [] (by rfl) (ownsRow_step (World.ownsRow_lit (e := 9) (size := 1) (base := wl.heap.size) wl #[] 0 (Nat.le_refl _) (by decide) rfl) ((Drw.refl _).drew.below _)) ⟨gp, 0, none⟩ k cp ((P.map Value.string).take k) (by rfl) HB1.out.1 (HB1.out.2.1 _ (((Below.refl _ _).alloc (Nat.le_refl _) _).drew)) HB1.out.2.2 (by unfold maxLen; omega) (by omega) (by simp) ?_
                         intro v1 w6 hown1 hg1
                         have B1 := Lib.hid ((((Below.refl wl.heap.size wl).alloc (Nat.le_refl _) (.cells #[] 9)).drew).grown hg1 (by simp) (fun j hj => by simp only [Value.ownBlock, Option.some.injEq] at hj; omega)))
                      | (refine step_append_own' _ (by rfl) _ _ _ (by rfl) wl.heap.size 9 iS _ 1 16 Try.underlying23 hiS hzS0 hzS1 hzS2 rfl (by omega) _ (0 + k) _ (by rfl) hown1 ⟨nb, 0, none⟩ 4 4 ([.string s0, .string s1, .string s2, .string s3]) (by rfl) HB2.out.1 (HB2.out.2.1 _ B1.out) HB2.out.2.2 (by unfold maxLen; omega) (by omega) B1.out.size ?_
                         intro v2 w7 hown2 hg2
                         have B2 := Lib.hid (B1.out.grown hg2 B1.out.size (fun j hj => (hown1.lt j hj).1)))
                      | (refine step_append_own' _ (by rfl) _ _ _ (by rfl) wl.heap.size 9 iS _ 1 16 Try.underlying23 hiS hzS0 hzS1 hzS2 rfl (by omega) _ (0 + k + 4) _ (by rfl) hown2 _ 0 _ ((P.map Value.string).drop (k + 1)) (by rfl) HB3.out.1 (HB3.out.2.1 _ B2.out) HB3.out.2.2 (by unfold maxLen; omega) (by omega) B2.out.size ?_
                         intro v3 w8 hown3 hg3
                         have B3 := Lib.hid (B2.out.grown hg3 B2.out.size (fun j hj => (hown2.lt j hj).1))
                         have O3 := Lib.hid hown3
                         clear hown1 hown2 hown3 hg1 hg2 hg3 B1 B2))
                    all_goals
                      have hpl : P.length = ln := by have := HSR.out.1; simpa using this
                      have hs8 := HRR.out.old.size
                      have HT9 := Lib.hid (HT8.out.step B3.out)
                      have HR9 := Lib.hid (HRR.out.step B3.out)
                      have hS9 : w8.ownsRow w.heap.size 9 1 v3 (ln + 3) ((P.take k ++ [s0, s1, s2, s3] ++ P.drop (k + 1)).map Value.string) := by
                        have h1 := ownsRow_mono O3.out (show w.heap.size ≤ wl.heap.size from hs8)
                        rw [show 0 + k + 4 + 0 = ln + 3 by have := HLE.out; omega] at h1
                        rw [List.map_append, List.map_append, List.map_take, List.map_drop]
                        exact h1
                      obtain ⟨g9, cap9, rfl, -, -⟩ := ownsRow_form hS9 (by omega)
                      have HS9 := Lib.hid hS9
                      clear hS9 HB1 HB2 HB3 HSR HX8 B3 O3 HT8 HRR
                      go_wp2
                      go_roundw
                      case rel => exact ⟨m + 1, ln + 3, gl, capl, g9, cap9, L.take k ++ L4 ++ L.drop (k + 1), P.take k ++ [s0, s1, s2, s3] ++ P.drop (k + 1), by omega, by go_num, rfl, rfl, HLL.out, ⟨HR9.out, by rw [← HLL.out] at HT9 ⊢; exact HT9.out, by rw [HLL.out]; exact HS9.out, fun u hu => by
                        rcases List.mem_append.1 hu with hu | hu
                        · rcases List.mem_append.1 hu with hu | hu
                          · have := HSZ.out u (List.mem_of_mem_take hu); omega
                          · simp only [List.mem_cons, List.not_mem_nil, or_false] at hu
                            rcases hu with rfl | rfl | rfl | rfl
                            · exact HZ4.out.1
                            · exact HZ4.out.2.1
                            · exact HZ4.out.2.2.1
                            · exact HZ4.out.2.2.2
                        · have := HSZ.out u (List.mem_of_mem_drop hu); omega, by rw [HLL.out]; have := HLIM.out; omega, by rw [HLL.out]; omega⟩⟩
                      case measure => simp [intOf]; omega
                  · skip
                    have HB1 : Hid (((P.map Value.string).take k).length = k * 1 ∧ (∀ W, Below wl.heap.size wl W → ∀ j u, ((P.map Value.string).take k)[j]? = some u → W.cell? ((⟨gp, 0, none⟩ : Addr).add j) = some u) ∧ ∀ u ∈ (P.map Value.string).take k, u.oneCell' = true) := st_take HSR.out (by omega) (strs_one P)
                    have HB2 : Hid (([.string s0, .string s1, .string s2, .string s3] : List Value).length = 4 * 1 ∧ (∀ W, Below wl.heap.size wl W → ∀ j u, ([.string s0, .string s1, .string s2, .string s3] : List Value)[j]? = some u → W.cell? ((⟨nb, 0, none⟩ : Addr).add j) = some u) ∧ ∀ u ∈ ([.string s0, .string s1, .string s2, .string s3] : List Value), u.oneCell' = true) := st_four HX8.out
                    have HB3 : Hid (((P.map Value.string).drop (k + 1)).length = (ln - (k + 1)) * 1 ∧ (∀ W, Below wl.heap.size wl W → ∀ j u, ((P.map Value.string).drop (k + 1))[j]? = some u → W.cell? ((⟨gp, k + 1, none⟩ : Addr).add j) = some u) ∧ ∀ u ∈ (P.map Value.string).drop (k + 1), u.oneCell' = true) := st_drop HSR.out (by omega) (strs_one P)
                    go_region_law (first
                      | (refine step_append_own' _ (by rfl) _ _ _ (by rfl) wl.heap.size 9 iS _ 1 16 Try.underlying23 hiS hzS0 hzS1 hzS2 rfl (by omega) _ 0 [] (by rfl) (ownsRow_step (World.ownsRow_lit (e := 9) (size := 1) (base := wl.heap.size) wl #[] 0 (Nat.le_refl _) (by decide) rfl) ((Drw.refl _).drew.below _)) ⟨gp, 0, none⟩ k cp ((P.map Value.string).take k) (by rfl) HB1.out.1 (HB1.out.2.1 _ (((Below.refl _ _).alloc (Nat.le_refl _) _).drew)) HB1.out.2.2 (by unfold maxLen; omega) (by omega) (by simp) ?_
                         intro v1 w6 hown1 hg1
                         have B1 := Lib.hid ((((Below.refl wl.heap.size wl).alloc (Nat.le_refl _) (.cells #[] 9)).drew).grown hg1 (by simp) (fun j hj => by simp only [Value.ownBlock, Option.some.injEq] at hj; omega)))
                      | (refine step_append_own' _ (by rfl) _ _ _ (by rfl) wl.heap.size 9 iS _ 1 16 Try.underlying23 hiS hzS0 hzS1 hzS2 rfl (by omega) _ (0 + k) _ (by rfl) hown1 ⟨nb, 0, none⟩ 4 4 ([.string s0, .string s1, .string s2, .string s3]) (by rfl) HB2.out.1 (HB2.out.2.1 _ B1.out) HB2.out.2.2 (by unfold maxLen; omega) (by omega) B1.out.size ?_
                         intro v2 w7 hown2 hg2
                         have B2 := Lib.hid (B1.out.grown hg2 B1.out.size (fun j hj => (hown1.lt j hj).1)))
                      | (refine step_append_own' _ (by rfl) _ _ _ (by rfl) wl.heap.size 9 iS _ 1 16 Try.underlying23 hiS hzS0 hzS1 hzS2 rfl (by omega) _ (0 + k + 4) _ (by rfl) hown2 _ (ln - (k + 1)) _ ((P.map Value.string).drop (k + 1)) (by rfl) HB3.out.1 (HB3.out.2.1 _ B2.out) HB3.out.2.2 (by unfold maxLen; omega) (by omega) B2.out.size ?_
                         intro v3 w8 hown3 hg3
                         have B3 := Lib.hid (B2.out.grown hg3 B2.out.size (fun j hj => (hown2.lt j hj).1))
                         have O3 := Lib.hid hown3
                         clear hown1 hown2 hown3 hg1 hg2 hg3 B1 B2))
                    all_goals
                      have hpl : P.length = ln := by have := HSR.out.1; simpa using this
                      have hs8 := HRR.out.old.size
                      have HT9 := Lib.hid (HT8.out.step B3.out)
                      have HR9 := Lib.hid (HRR.out.step B3.out)
                      have hS9 : w8.ownsRow w.heap.size 9 1 v3 (ln + 3) ((P.take k ++ [s0, s1, s2, s3] ++ P.drop (k + 1)).map Value.string) := by
                        have h1 := ownsRow_mono O3.out (show w.heap.size ≤ wl.heap.size from hs8)
                        rw [show 0 + k + 4 + (ln - (k + 1)) = ln + 3 by omega] at h1
                        rw [List.map_append, List.map_append, List.map_take, List.map_drop]
                        exact h1
                      obtain ⟨g9, cap9, rfl, -, -⟩ := ownsRow_form hS9 (by omega)
                      have HS9 := Lib.hid hS9
                      clear hS9 HB1 HB2 HB3 HSR HX8 B3 O3 HT8 HRR
                      go_wp2
                      go_roundw
                      case rel => exact ⟨m + 1, ln + 3, gl, capl, g9, cap9, L.take k ++ L4 ++ L.drop (k + 1), P.take k ++ [s0, s1, s2, s3] ++ P.drop (k + 1), by omega, by go_num, rfl, rfl, HLL.out, ⟨HR9.out, by rw [← HLL.out] at HT9 ⊢; exact HT9.out, by rw [HLL.out]; exact HS9.out, fun u hu => by
                        rcases List.mem_append.1 hu with hu | hu
                        · rcases List.mem_append.1 hu with hu | hu
                          · have := HSZ.out u (List.mem_of_mem_take hu); omega
                          · simp only [List.mem_cons, List.not_mem_nil, or_false] at hu
                            rcases hu with rfl | rfl | rfl | rfl
                            · exact HZ4.out.1
                            · exact HZ4.out.2.1
                            · exact HZ4.out.2.2.1
                            · exact HZ4.out.2.2.2
                        · have := HSZ.out u (List.mem_of_mem_drop hu); omega, by rw [HLL.out]; have := HLIM.out; omega, by rw [HLL.out]; omega⟩⟩
                      case measure => simp [intOf]; omega
              · skip
                have HB1 : Hid ((cellsL (L.take k)).length = k * 5 ∧ (∀ W, Below w5.heap.size w5 W → ∀ j u, (cellsL (L.take k))[j]? = some u → W.cell? ((⟨g, 0, none⟩ : Addr).add j) = some u) ∧ ∀ u ∈ cellsL (L.take k), u.oneCell' = true) := tl_take HK5.out.T HLN.out (by omega)
                have HB2 : Hid ((cellsL L4).length = 4 * 5 ∧ (∀ W, Below w5.heap.size w5 W → ∀ j u, (cellsL L4)[j]? = some u → W.cell? ((⟨g4, 0, none⟩ : Addr).add j) = some u) ∧ ∀ u ∈ cellsL L4, u.oneCell' = true) := tl_all H45.out HL4.out
                have HB3 : Hid ((cellsL (L.drop (k + 1))).length = (ln - (k + 1)) * 5 ∧ (∀ W, Below w5.heap.size w5 W → ∀ j u, (cellsL (L.drop (k + 1)))[j]? = some u → W.cell? ((⟨g, (k + 1) * 5, none⟩ : Addr).add j) = some u) ∧ ∀ u ∈ cellsL (L.drop (k + 1)), u.oneCell' = true) := tl_drop HK5.out.T HLN.out (by omega)
                go_region_law (first
                  | (refine step_append_own' _ (by rfl) _ _ _ (by rfl) w5.heap.size 37 iT _ 5 72 Try.underlying32 hiT hzT0 hzT1 hzT2 rfl (by omega) _ 0 [] (by rfl) (ownsRow_step (World.ownsRow_lit (e := 37) (size := 5) (base := w5.heap.size) w5 #[] 0 (Nat.le_refl _) (by decide) rfl) ((Drw.refl _).drew.below _)) ⟨g, 0, none⟩ k cap (cellsL (L.take k)) (by rfl) HB1.out.1 (HB1.out.2.1 _ (((Below.refl _ _).alloc (Nat.le_refl _) _).drew)) HB1.out.2.2 (by unfold maxLen; omega) (by omega) (by simp) ?_
                     intro v1 w6 hown1 hg1
                     have B1 := Lib.hid ((((Below.refl w5.heap.size w5).alloc (Nat.le_refl _) (.cells #[] 37)).drew).grown hg1 (by simp) (fun j hj => by simp only [Value.ownBlock, Option.some.injEq] at hj; omega)))
                  | (refine step_append_own' _ (by rfl) _ _ _ (by rfl) w5.heap.size 37 iT _ 5 72 Try.underlying32 hiT hzT0 hzT1 hzT2 rfl (by omega) _ (0 + k) _ (by rfl) hown1 ⟨g4, 0, none⟩ 4 cap4 (cellsL L4) (by rfl) HB2.out.1 (HB2.out.2.1 _ B1.out) HB2.out.2.2 (by unfold maxLen; omega) (by omega) B1.out.size ?_
                     intro v2 w7 hown2 hg2
                     have B2 := Lib.hid (B1.out.grown hg2 B1.out.size (fun j hj => (hown1.lt j hj).1)))
                  | (refine step_append_own' _ (by rfl) _ _ _ (by rfl) w5.heap.size 37 iT _ 5 72 Try.underlying32 hiT hzT0 hzT1 hzT2 rfl (by omega) _ (0 + k + 4) _ (by rfl) hown2 _ (ln - (k + 1)) _ (cellsL (L.drop (k + 1))) (by rfl) HB3.out.1 (HB3.out.2.1 _ B2.out) HB3.out.2.2 (by unfold maxLen; omega) (by omega) B2.out.size ?_
                     intro lv9 wl hown3 hg3
                     have B3 := Lib.hid (B2.out.grown hg3 B2.out.size (fun j hj => (hown2.lt j hj).1))
                     have O3 := Lib.hid hown3
                     clear hown1 hown2 hown3 hg1 hg2 hg3 B1 B2))
                all_goals
                  have O4 := O3.out
                  have HT8 : Hid (TList w.heap.size (L.take k ++ L4 ++ L.drop (k + 1)) lv9 wl) := tl_cat HK5.out.T H45.out B3.out HLN.out HL4.out (by omega) (by have := HK5.out.R.old.size; omega) O4
                  have HLL : Hid ((L.take k ++ L4 ++ L.drop (k + 1)).length = ln + 3) := by
                    show _ = _
                    rw [List.length_append, List.length_append, List.length_take, List.length_drop, HL4.out, HLN.out, Nat.min_eq_left (by omega)]; omega
                  have HSR : Hid (wl.ownsRow w.heap.size 9 1 (.slice (some ⟨gp, 0, none⟩) ln cp) ln (P.map Value.string)) := by
                    have := ownsRow_step HK5.out.S B3.out
                    rwa [HLN.out] at this
                  have HRR := Lib.hid (HK5.out.R.step B3.out)
                  have HSZ := Lib.hid HK5.out.sz
                  have HLIM : Hid (ln ≤ 1 + 3 * m) := by have := HK5.out.lim; rwa [HLN.out] at this
                  have HX8 := Lib.hid (HX5.out.step B3.out)
                  have hrow := HT8.out.row
                  rw [HLL.out] at hrow
                  obtain ⟨gl, capl, hv3, -, -⟩ := ownsRow_form hrow (by omega)
                  clear O4 hrow HB1 HB2 HB3 HK5 HX5 H45 B3 O3 hcz
                  subst hv3
                  go_upto_region 16 with fail
                  by_cases hcq : cp = k + 1
                  · have HLE : Hid (ln ≤ k + 1) := (by omega : ln ≤ k + 1)
                    replace hcq : k + 1 = cp := hcq.symm
                    have HB1 : Hid (((P.map Value.string).take k).length = k * 1 ∧ (∀ W, Below wl.heap.size wl W → ∀ j u, ((P.map Value.string).take k)[j]? = some u → W.cell? ((⟨gp, 0, none⟩ : Addr).add j) = some u) ∧ ∀ u ∈ (P.map Value.string).take k, u.oneCell' = true) := st_take HSR.out (by omega) (strs_one P)
                    have HB2 : Hid (([.string s0, .string s1, .string s2, .string s3] : List Value).length = 4 * 1 ∧ (∀ W, Below wl.heap.size wl W → ∀ j u, ([.string s0, .string s1, .string s2, .string s3] : List Value)[j]? = some u → W.cell? ((⟨nb, 0, none⟩ : Addr).add j) = some u) ∧ ∀ u ∈ ([.string s0, .string s1, .string s2, .string s3] : List Value), u.oneCell' = true) := st_four HX8.out
                    have HB3 : Hid (((P.map Value.string).drop (k + 1)).length = 0 * 1 ∧ (∀ W, Below wl.heap.size wl W → ∀ j u, ((P.map Value.string).drop (k + 1))[j]? = some u → W.cell? ((⟨gp, 0, none⟩ : Addr).add j) = some u) ∧ ∀ u ∈ (P.map Value.string).drop (k + 1), u.oneCell' = true) := (by have e0 : ln - (k + 1) = 0 := (by omega); have h0 := st_end (g := gp) (w := wl) (show (P.map Value.string).length = ln by have := HSR.out.1; rwa [Nat.mul_one] at this) HLE.out; rwa [e0] at h0)
                    go_region_law (first
                      | (refine step_append_own' _ (by rfl) _ _ _ (by rfl) wl.heap.size 9 iS _ 1 16 Try.underlying23 hiS hzS0 hzS1 hzS2 rfl (by omega) _ 0 [] (by rfl) (ownsRow_step (World.ownsRow_lit (e := 9) (size := 1) (base := wl.heap.size) wl #[] 0 (Nat.le_refl _) (by decide) rfl) ((Drw.refl _).drew.below _)) ⟨gp, 0, none⟩ k cp ((P.map Value.string).take k) (by rfl) HB1.out.1 (HB1.out.2.1 _ (((Below.refl _ _).alloc (Nat.le_refl _) _).drew)) HB1.out.2.2 (by unfold maxLen; omega) (by omega) (by simp) ?_
                         intro v1 w6 hown1 hg1
                         have B1 := Lib.hid ((((Below.refl wl.heap.size wl).alloc (Nat.le_refl _) (.cells #[] 9)).drew).grown hg1 (by simp) (fun j hj => by simp only [Value.ownBlock, Option.some.injEq] at hj; omega)))
                      | (refine step_append_own' _ (by rfl) _ _ _ (by rfl) wl.heap.size 9 iS _ 1 16 Try.underlying23 hiS hzS0 hzS1 hzS2 rfl (by omega) _ (0 + k) _ (by rfl) hown1 ⟨nb, 0, none⟩ 4 4 ([.string s0, .string s1, .string s2, .string s3]) (by rfl) HB2.out.1 (HB2.out.2.1 _ B1.out) HB2.out.2.2 (by unfold maxLen; omega) (by omega) B1.out.size ?_
                         intro v2 w7 hown2 hg2
                         have B2 := Lib.hid (B1.out.grown hg2 B1.out.size (fun j hj => (hown1.lt j hj).1)))
                      | (refine step_append_own' _ (by rfl) _ _ _ (by rfl) wl.heap.size 9 iS _ 1 16 Try.underlying23 hiS hzS0 hzS1 hzS2 rfl (by omega) _ (0 + k + 4) _ (by rfl) hown2 _ 0 _ ((P.map Value.string).drop (k + 1)) (by rfl) HB3.out.1 (HB3.out.2.1 _ B2.out) HB3.out.2.2 (by unfold maxLen; omega) (by omega) B2.out.size ?_
                         intro v3 w8 hown3 hg3
                         have B3 := Lib.hid (B2.out.grown hg3 B2.out.size (fun j hj => (hown2.lt j hj).1))
                         have O3 := Lib.hid hown3
                         clear hown1 hown2 hown3 hg1 hg2 hg3 B1 B2))
                    all_goals
                      have hpl : P.length = ln := by have := HSR.out.1; simpa using this
                      have hs8 := HRR.out.old.size
                      have HT9 := Lib.hid (HT8.out.step B3.out)
                      have HR9 := Lib.hid (HRR.out.step B3.out)
                      have hS9 : w8.ownsRow w.heap.size 9 1 v3 (ln + 3) ((P.take k ++ [s0, s1, s2, s3] ++ P.drop (k + 1)).map Value.string) := by
                        have h1 := ownsRow_mono O3.out (show w.heap.size ≤ wl.heap.size from hs8)
                        rw [show 0 + k + 4 + 0 = ln + 3 by have := HLE.out; omega] at h1
                        rw [List.map_append, List.map_append, List.map_take, List.map_drop]
                        exact h1
                      obtain ⟨g9, cap9, rfl, -, -⟩ := ownsRow_form hS9 (by omega)
                      have HS9 := Lib.hid hS9
                      clear hS9 HB1 HB2 HB3 HSR HX8 B3 O3 HT8 HRR
                      go_wp2
                      go_roundw
                      case rel => exact ⟨m + 1, ln + 3, gl, capl, g9, cap9, L.take k ++ L4 ++ L.drop (k + 1), P.take k ++ [s0, s1, s2, s3] ++ P.drop (k + 1), by omega, by go_num, rfl, rfl, HLL.out, ⟨HR9.out, by rw [← HLL.out] at HT9 ⊢; exact HT9.out, by rw [HLL.out]; exact HS9.out, fun u hu => by
                        rcases List.mem_append.1 hu with hu | hu
                        · rcases List.mem_append.1 hu with hu | hu
                          · have := HSZ.out u (List.mem_of_mem_take hu); omega
                          · simp only [List.mem_cons, List.not_mem_nil, or_false] at hu
                            rcases hu with rfl | rfl | rfl | rfl
                            · exact HZ4.out.1
                            · exact HZ4.out.2.1
                            · exact HZ4.out.2.2.1
                            · exact HZ4.out.2.2.2
                        · have := HSZ.out u (List.mem_of_mem_drop hu); omega, by rw [HLL.out]; have := HLIM.out; omega, by rw [HLL.out]; omega⟩⟩
                      case measure => simp [intOf]; omega
                  · skip
                    have HB1 : Hid (((P.map Value.string).take k).length = k * 1 ∧ (∀ W, Below wl.heap.size wl W → ∀ j u, ((P.map Value.string).take k)[j]? = some u → W.cell? ((⟨gp, 0, none⟩ : Addr).add j) = some u) ∧ ∀ u ∈ (P.map Value.string).take k, u.oneCell' = true) := st_take HSR.out (by omega) (strs_one P)
                    have HB2 : Hid (([.string s0, .string s1, .string s2, .string s3] : List Value).length = 4 * 1 ∧ (∀ W, Below wl.heap.size wl W → ∀ j u, ([.string s0, .string s1, .string s2, .string s3] : List Value)[j]? = some u → W.cell? ((⟨nb, 0, none⟩ : Addr).add j) = some u) ∧ ∀ u ∈ ([.string s0, .string s1, .string s2, .string s3] : List Value), u.oneCell' = true) := st_four HX8.out
                    have HB3 : Hid (((P.map Value.string).drop (k + 1)).length = (ln - (k + 1)) * 1 ∧ (∀ W, Below wl.heap.size wl W → ∀ j u, ((P.map Value.string).drop (k + 1))[j]? = some u → W.cell? ((⟨gp, k + 1, none⟩ : Addr).add j) = some u) ∧ ∀ u ∈ (P.map Value.string).drop (k + 1), u.oneCell' = true) := st_drop HSR.out (by omega) (strs_one P)
                    go_region_law (first
                      | (refine step_append_own' _ (by rfl) _ _ _ (by rfl) wl.heap.size 9 iS _ 1 16 Try.underlying23 hiS hzS0 hzS1 hzS2 rfl (by omega) _ 0 [] (by rfl) (ownsRow_step (World.ownsRow_lit (e := 9) (size := 1) (base := wl.heap.size) wl #[] 0 (Nat.le_refl _) (by decide) rfl) ((Drw.refl _).drew.below _)) ⟨gp, 0, none⟩ k cp ((P.map Value.string).take k) (by rfl) HB1.out.1 (HB1.out.2.1 _ (((Below.refl _ _).alloc (Nat.le_refl _) _).drew)) HB1.out.2.2 (by unfold maxLen; omega) (by omega) (by simp) ?_
                         intro v1 w6 hown1 hg1
                         have B1 := Lib.hid ((((Below.refl wl.heap.size wl).alloc (Nat.le_refl _) (.cells #[] 9)).drew).grown hg1 (by simp) (fun j hj => by simp only [Value.ownBlock, Option.some.injEq] at hj; omega)))
                      | (refine step_append_own' _ (by rfl) _ _ _ (by rfl) wl.heap.size 9 iS _ 1 16 Try.underlying23 hiS hzS0 hzS1 hzS2 rfl (by omega) _ (0 + k) _ (by rfl) hown1 ⟨nb, 0, none⟩ 4 4 ([.string s0, .string s1, .string s2, .string s3]) (by rfl) HB2.out.1 (HB2.out.2.1 _ B1.out) HB2.out.2.2 (by unfold maxLen; omega) (by omega) B1.out.size ?_
                         intro v2 w7 hown2 hg2
                         have B2 := Lib.hid (B1.out.grown hg2 B1.out.size (fun j hj => (hown1.lt j hj).1)))
                      | (refine step_append_own' _ (by rfl) _ _ _ (by rfl) wl.heap.size 9 iS _ 1 16 Try.underlying23 hiS hzS0 hzS1 hzS2 rfl (by omega) _ (0 + k + 4) _ (by rfl) hown2 _ (ln - (k + 1)) _ ((P.map Value.string).drop (k + 1)) (by rfl) HB3.out.1 (HB3.out.2.1 _ B2.out) HB3.out.2.2 (by unfold maxLen; omega) (by omega) B2.out.size ?_
                         intro v3 w8 hown3 hg3
                         have B3 := Lib.hid (B2.out.grown hg3 B2.out.size (fun j hj => (hown2.lt j hj).1))
                         have O3 := Lib.hid hown3
                         clear hown1 hown2 hown3 hg1 hg2 hg3 B1 B2))
                    all_goals
                      have hpl : P.length = ln := by have := HSR.out.1; simpa using this
                      have hs8 := HRR.out.old.size
                      have HT9 := Lib.hid (HT8.out.step B3.out)
                      have HR9 := Lib.hid (HRR.out.step B3.out)
                      have hS9 : w8.ownsRow w.heap.size 9 1 v3 (ln + 3) ((P.take k ++ [s0, s1, s2, s3] ++ P.drop (k + 1)).map Value.string) := by
                        have h1 := ownsRow_mono O3.out (show w.heap.size ≤ wl.heap.size from hs8)
                        rw [show 0 + k + 4 + (ln - (k + 1)) = ln + 3 by omega] at h1
                        rw [List.map_append, List.map_append, List.map_take, List.map_drop]
                        exact h1
                      obtain ⟨g9, cap9, rfl, -, -⟩ := ownsRow_form hS9 (by omega)
                      have HS9 := Lib.hid hS9
                      clear hS9 HB1 HB2 HB3 HSR HX8 B3 O3 HT8 HRR
                      go_wp2
                      go_roundw
                      case rel => exact ⟨m + 1, ln + 3, gl, capl, g9, cap9, L.take k ++ L4 ++ L.drop (k + 1), P.take k ++ [s0, s1, s2, s3] ++ P.drop (k + 1), by omega, by go_num, rfl, rfl, HLL.out, ⟨HR9.out, by rw [← HLL.out] at HT9 ⊢; exact HT9.out, by rw [HLL.out]; exact HS9.out, fun u hu => by
                        rcases List.mem_append.1 hu with hu | hu
                        · rcases List.mem_append.1 hu with hu | hu
                          · have := HSZ.out u (List.mem_of_mem_take hu); omega
                          · simp only [List.mem_cons, List.not_mem_nil, or_false] at hu
                            rcases hu with rfl | rfl | rfl | rfl
                            · exact HZ4.out.1
                            · exact HZ4.out.2.1
                            · exact HZ4.out.2.2.1
                            · exact HZ4.out.2.2.2
                        · have := HSZ.out u (List.mem_of_mem_drop hu); omega, by rw [HLL.out]; have := HLIM.out; omega, by rw [HLL.out]; omega⟩⟩
                      case measure => simp [intOf]; omega
        · skip
          have CT := l8Told_any w.heap.size g cap (L.map JT.of) (by rw [List.length_map, HLN.out]; omega) (fun u hu => by
            obtain ⟨v, hv, rfl⟩ := List.mem_map.1 hu
            exact (HK.out.T.own v hv).well) (some ⟨gp, 0, none⟩) ln cp wr (TList.jin (by rw [HLN.out]; exact HK.out.T))
          rw [List.length_map, HLN.out] at CT
          replace CT := Lib.hid CT
          go_wp2_with fail
          refine CT.out.mono ?_
          rintro e wz ⟨hdz, gz, capz, msz, pz, qz, rz, rfl, hoz⟩
          have HKZ := Lib.hid (HK.out.step hdz)
          have HOZ := Lib.hid (ownsRow_mono hoz HK.out.R.old.size)
          obtain ⟨r0, r1, r2, r3, r4⟩ := HKZ.out.R.cells5
          obtain ⟨f0, f1, f2, f3, f4⟩ := HKZ.out.R.free5
          have hSZ := HKZ.out.S
          rw [HLN.out] at hSZ
          have HSZ := Lib.hid hSZ
          clear hSZ CT hdz hoz
          go_wp2
          exact bodyPost_ret (v := .tuple #[.agg #[.slice (some ⟨gp, 0, none⟩) ln cp, .slice (some ⟨gz, 0, none⟩) ln capz, .int .i64 pz, .int .i64 qz, .int .i64 rz], .bool true]) (by simp [results, Try.f38, go_sem, r0, r1, r2, r3, r4]) rfl ⟨set5 HKZ.out.R.old (Nat.le_refl _) _ _ _ _ _, .inr ⟨gp, cp, gz, capz, ln, P, msz, pz, qz, rz, rfl, ownsRow_box5 HSZ.out HKZ.out.R (Nat.le_refl _) (by decide) _ _ _ _ _, ownsRow_box5 HOZ.out HKZ.out.R (Nat.le_refl _) (by decide) _ _ _ _ _, fun u hu => by have := HKZ.out.sz u hu; omega, by omega, by omega⟩⟩
end Go.Proofs.Ytalmhbcmagjheaa
end
