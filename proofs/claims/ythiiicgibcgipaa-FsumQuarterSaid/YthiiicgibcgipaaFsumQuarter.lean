/- FsumQuarter: the walk. For every list of whole numbers and every two parts the law returns true, and nothing that was there is written. No condition. -/
import Derived.Test.YthiiicgibcgipaaFlP
import Derived.Test.YthiiicgibcgipaaFsumMiddle
namespace Go.Proofs.Ythiiicgibcgipaa.Fq
set_option linter.unusedSimpArgs false
set_option linter.unusedVariables false
open Go.RowKit Fl Fb Fs
open Go.Proofs.Ythiiicgibcgipaa.So
attribute [local go_sem] and_sgn andNot_sgn xor_sgn xor_all run_neg_float u64_unsigned

set_option maxHeartbeats 2000000 in
theorem quarter_0 (A : Option Addr) (n c a b : Nat) (w : World) (h0 : ((n : Int) == 0) = true)  :
    Calls Try.prog 10 #[.slice A n c, .float .f64 a, .float .f64 b] w fun e w' => e = .returned (.bool true) ∧ Below w.heap.size w w' := by
  go_enter Try.func10, Try.ntmps10
  go_wp2_with fail
  refine (awake_any _).mono ?_
  rintro e w1 ⟨rfl, hb⟩
  go_wp2_with fail
  go_ret
  exact ⟨rfl, hb⟩
set_option maxHeartbeats 2000000 in
theorem quarter_1 (A : Option Addr) (n c a b : Nat) (w : World) (h0 : ((n : Int) == 0) = false) (h1 : decide ((200 : Int) < n) = true)  :
    Calls Try.prog 10 #[.slice A n c, .float .f64 a, .float .f64 b] w fun e w' => e = .returned (.bool true) ∧ Below w.heap.size w w' := by
  go_enter Try.func10, Try.ntmps10
  go_wp2_with fail
  refine (awake_any _).mono ?_
  rintro e w1 ⟨rfl, hb⟩
  go_wp2_with fail
  go_ret
  exact ⟨rfl, hb⟩
set_option maxHeartbeats 2000000 in
theorem quarter_2 (A : Option Addr) (n c a b : Nat) (w : World) (h0 : ((n : Int) == 0) = false) (h1 : decide ((200 : Int) < n) = false) (ga : (FloatKind.f64.format.order a 0 == some .gt || FloatKind.f64.format.order a 0 == some .eq) = false) :
    Calls Try.prog 10 #[.slice A n c, .float .f64 a, .float .f64 b] w fun e w' => e = .returned (.bool true) ∧ Below w.heap.size w w' := by
  go_enter Try.func10, Try.ntmps10
  go_wp2_with fail
  refine (awake_any _).mono ?_
  rintro e w1 ⟨rfl, hb⟩
  go_wp2_with fail
  go_ret
  exact ⟨rfl, hb⟩
set_option maxHeartbeats 2000000 in
theorem quarter_3 (A : Option Addr) (n c a b : Nat) (w : World) (h0 : ((n : Int) == 0) = false) (h1 : decide ((200 : Int) < n) = false) (ga : (FloatKind.f64.format.order a 0 == some .gt || FloatKind.f64.format.order a 0 == some .eq) = true) (gb : (FloatKind.f64.format.order a b == some .lt || FloatKind.f64.format.order a b == some .eq) = false) :
    Calls Try.prog 10 #[.slice A n c, .float .f64 a, .float .f64 b] w fun e w' => e = .returned (.bool true) ∧ Below w.heap.size w w' := by
  go_enter Try.func10, Try.ntmps10
  go_wp2_with fail
  refine (awake_any _).mono ?_
  rintro e w1 ⟨rfl, hb⟩
  go_wp2_with fail
  go_ret
  exact ⟨rfl, hb⟩
set_option maxHeartbeats 2000000 in
theorem quarter_4 (A : Option Addr) (n c a b : Nat) (w : World) (h0 : ((n : Int) == 0) = false) (h1 : decide ((200 : Int) < n) = false) (ga : (FloatKind.f64.format.order a 0 == some .gt || FloatKind.f64.format.order a 0 == some .eq) = true) (gb : (FloatKind.f64.format.order a b == some .lt || FloatKind.f64.format.order a b == some .eq) = true) (gc : (FloatKind.f64.format.order b 4607182418800017408 == some .lt || FloatKind.f64.format.order b 4607182418800017408 == some .eq) = false) :
    Calls Try.prog 10 #[.slice A n c, .float .f64 a, .float .f64 b] w fun e w' => e = .returned (.bool true) ∧ Below w.heap.size w w' := by
  go_enter Try.func10, Try.ntmps10
  go_wp2_with fail
  refine (awake_any _).mono ?_
  rintro e w1 ⟨rfl, hb⟩
  go_wp2_with fail
  go_ret
  exact ⟨rfl, hb⟩
theorem parts_ok {a b : Nat} (ga : (FloatKind.f64.format.order a 0 == some .gt || FloatKind.f64.format.order a 0 == some .eq) = true) (gb : (FloatKind.f64.format.order a b == some .lt || FloatKind.f64.format.order a b == some .eq) = true) (gc : (FloatKind.f64.format.order b 4607182418800017408 == some .lt || FloatKind.f64.format.order b 4607182418800017408 == some .eq) = true) :
    okQ a ∧ okQ b ∧ rg a ≤ rg b ∧ okB a = true ∧ okB b = true := by
  have s0 : sk 0 = 0 := by decide
  have s1 : sk 4607182418800017408 = 4607182418800017408 := by decide
  have r0 : rg 0 = 0 := by decide
  have r1 : rg 4607182418800017408 = 4607182418800017408 := by decide
  have ha : sk a = if ng a then -(rg a : Int) else (rg a : Int) := rfl
  have hb : sk b = if ng b then -(rg b : Int) else (rg b : Int) := rfl
  unfold okB okQ
  simp only [fmt64, o_lt, o_gt, o_eq, s0, s1, r0, r1, Bool.or_eq_true, Bool.and_eq_true, decide_eq_true_eq] at ga gb gc ⊢
  cases h1 : ng a <;> cases h2 : ng b <;> rw [h1] at ha <;> rw [h2] at hb <;> simp at ha hb <;> simp <;> omega
theorem le_su {x y : Nat} (hx : rg x ≤ 9218868437227405312) (hy : rg y ≤ 9218868437227405312) (h : su x ≤ su y) : (FloatKind.f64.format.order x y == some .lt || FloatKind.f64.format.order x y == some .eq) = true := by
  have h1 := su_sk x y
  rw [fmt64, o_lt, o_eq]
  simp [hx, hy]
  rcases Int.lt_trichotomy (sk x) (sk y) with g | g | g
  · omega
  · omega
  · rw [cmp_gt g] at h1
    rcases Int.lt_or_eq_of_le h with k | k
    · rw [cmp_lt k] at h1; cases h1
    · rw [k, cmp_eq] at h1; cases h1
theorem hnum {r V : Nat} (h : cn r = V) (hV : rg V ≤ 9218868437227405312) : r = V := by
  rcases Nat.lt_or_ge 9218868437227405312 (rg r) with g | g
  · rw [cn_nan g] at h; rw [← h] at hV; exact absurd hV (by decide)
  · rw [cn_num g] at h; exact h
set_option maxRecDepth 100000 in
set_option maxHeartbeats 8000000 in
theorem quarter_x (A : Option Addr) (n c a b : Nat) (l : List Int) (w : World) (h : IsInts .i64 w A n c l) (h0 : ((n : Int) == 0) = false) (h1 : decide ((200 : Int) < n) = false) (ga : (FloatKind.f64.format.order a 0 == some .gt || FloatKind.f64.format.order a 0 == some .eq) = true) (gb : (FloatKind.f64.format.order a b == some .lt || FloatKind.f64.format.order a b == some .eq) = true) (gc : (FloatKind.f64.format.order b 4607182418800017408 == some .lt || FloatKind.f64.format.order b 4607182418800017408 == some .eq) = true) :
    Calls Try.prog 10 #[.slice A n c, .float .f64 a, .float .f64 b] w fun e w' => e = .returned (.bool true) ∧ Below w.heap.size w w' := by
  have hl := h.len
  have hn : n ≤ 200 := by have := of_decide_eq_false h1; omega
  have hpos : 0 < n := by have := beq_eq_false_iff_ne.1 h0; omega
  obtain ⟨i0, hi, hz0, hz1, hz2⟩ := info_parts Fs.infoF
  obtain ⟨ad0, rfl, hb0, hcell0⟩ := h.rd.get (k := 0) (by rw [List.length_map]; omega)
  clear hcell0
  go_enter Try.func10, Try.ntmps10
  go_wp2_with fail
  go_loopw [7, 8] (fun v i wr => ∃ (k : Nat) (rs : List Nat), k ≤ n ∧ i = .int .i64 k ∧ Hid (∀ x ∈ l.take k, x.natAbs ≤ 1000000) ∧ Building w.heap.size w wr v k ((l.take k).map F) rs) (fun _ i _ => n - (intOf i).toNat)
  case atStart => exact ⟨0, [], Nat.zero_le _, rfl, (by intro x hx; simp at hx), Building.start w⟩
  case round =>
    obtain ⟨k, rs, hk, rfl, HA, hB⟩ := hrel
    by_cases hlt : k < n
    · obtain ⟨ad, had, hbb, hcell⟩ := (h.rd.next (Nat.le_refl _) hB.bel).get (k := k) (by rw [List.length_map]; omega)
      obtain rfl : ad0 = ad := by injection had
      clear had
      rw [List.getElem_map] at hcell
      obtain ⟨x, hx0⟩ : ∃ x, l[k]'(by omega) = x := ⟨_, rfl⟩
      rw [hx0] at hcell
      have hkeep : ∀ W : World, Below w.heap.size w W → W.cell? (ad0.add k) = some (.int .i64 x) := fun W hW => by
        obtain ⟨ad, e, _, hc⟩ := (h.rd.next (Nat.le_refl _) hW).get (k := k) (by rw [List.length_map]; omega)
        injection e with e; subst e
        rw [List.getElem_map, hx0] at hc; exact hc
      have HX := Lib.hid hx0
      clear hx0
      cases h1 : decide (x < -1000000)
      · cases h2 : decide (1000000 < x)
        · have c3 : -1000000 ≤ x := by have := of_decide_eq_false h1; omega
          have c4 : x ≤ 1000000 := by have := of_decide_eq_false h2; omega
          go_wp2_with (at_builtin; go_must (refine wpList_app1 rfl _ _ 24 rfl w.heap.size 25 i0 (.float .f64 0) 8 Try.underlying24 hi hz0 hz1 hz2 rfl _ k _ (by rfl) (by exact hB.own) (by exact hB.bel.size) (by exact hB.bel) _ (by rfl) (by rfl) (by omega) (by omega) ?_); intro v' w2 hO2 hW2 _; have hcell2 : w2.cell? (ad0.add k) = some (.int .i64 x) := hkeep w2 hW2)
          go_roundw
          case rel => exact ⟨k + 1, rs ++ [F x], by omega, by go_num, fun y hy => by
              rw [List.take_succ_eq_append_getElem (by omega), HX.out] at hy
              rcases List.mem_append.1 hy with g | g
              · exact HA.out y g
              · rw [List.mem_singleton] at g; rw [g]; omega, by rw [take_mapI _ _ _ (by omega), HX.out]; exact hB.more hO2 hW2 (cn_F x) (F_lt x)⟩
          case measure => simp [intOf]; omega
        · clear HX
          go_wp2_with fail
          refine (awake_any _).mono ?_
          rintro e w2 ⟨rfl, hb2⟩
          go_wp2_with fail
          go_ret
          exact ⟨rfl, Below.trans (hB.bel) (hb2.mono (hB.bel).size)⟩
      · clear HX
        go_wp2_with fail
        refine (awake_any _).mono ?_
        rintro e w2 ⟨rfl, hb2⟩
        go_wp2_with fail
        go_ret
        exact ⟨rfl, Below.trans (hB.bel) (hb2.mono (hB.bel).size)⟩
    · obtain rfl : k = n := by omega
      obtain ⟨A2, c2, rfl, hI⟩ := nums_of_own hB.own hB.wf
      have HW := hB.bel
      have hcns := hB.cns
      have hA := HA.out
      rw [List.take_of_length_le (by omega)] at hA hcns
      have hr := raw_F hcns fun x hx => by have := hA x hx; omega
      subst hr
      obtain ⟨m, rfl⟩ : ∃ m, k = m + 1 := ⟨k - 1, by omega⟩
      obtain ⟨L, hL, hLp, hLs⟩ := sort_F hA
      obtain ⟨qa, qb, qab, oa, ob⟩ := parts_ok ga gb gc
      have hLb : ∀ x ∈ L, x.natAbs ≤ 1000000 := fun x hx => hA x (hLp.mem_iff.1 hx)
      have hs : ∀ i j, i ≤ j → j ≤ m → L.getD i 0 ≤ L.getD j 0 := fun i j hij hj => hLs i j hij (by omega)
      have hQ : ∀ q, okB q = true → quantV (l.map F) q = quantX (L.map F) m q ∧ quantE (l.map F) q = 0 := fun q hq => by
        unfold quantV quantE
        rw [List.length_map, hl, if_neg (show ¬ m + 1 = 0 by omega), if_neg (show ¬ m + 1 = 0 by omega), if_pos hq, if_pos hq, hL]
        exact ⟨rfl, rfl⟩
      have o0 : okB 0 = true := by decide
      have o1 : okB 4607182418800017408 = true := by decide
      have q0 : okQ 0 := ⟨by decide, Or.inl rfl⟩
      have q1 : okQ 4607182418800017408 := ⟨by decide, Or.inl (by decide)⟩
      have e0 := quantX_zero hLb (by omega) hs
      have e1 := quantX_one hLb (by omega) hs
      have na := quantX_num hLb qa (by omega) hs
      have nb := quantX_num hLb qb (by omega) hs
      have n0 := quantX_num hLb q0 (by omega) hs
      have n1 := quantX_num hLb q1 (by omega) hs
      have ca := le_su na nb (quantX_mono hLb qa qb qab (by omega) hs)
      have cb := le_su n0 na (quantX_mono hLb q0 qa (Nat.zero_le _) (by omega) hs)
      have cc := le_su nb n1 (quantX_mono hLb qb q1 (by have := qb.1; exact this) (by omega) hs)
      have Va := Lib.hid (And.intro (hQ a oa).1 na)
      have Ea := Lib.hid (hQ a oa).2
      have Vb := Lib.hid (And.intro (hQ b ob).1 nb)
      have Eb := Lib.hid (hQ b ob).2
      have V0 := Lib.hid (And.intro (hQ 0 o0).1 n0)
      have E0 := Lib.hid (hQ 0 o0).2
      have V1 := Lib.hid (And.intro (hQ 4607182418800017408 o1).1 n1)
      have E1 := Lib.hid (hQ 4607182418800017408 o1).2
      rw [e0] at cb V0 n0
      rw [e1] at cc V1 n1
      have d0 := t_eq_num n0
      have d1 := t_eq_num n1
      generalize quantX (L.map F) m a = PV at *
      generalize quantX (L.map F) m b = QV at *
      obtain ⟨LV, hLV⟩ : ∃ LV, F (L.getD 0 0) = LV := ⟨_, rfl⟩
      obtain ⟨HV, hHV⟩ : ∃ HV, F (L.getD m 0) = HV := ⟨_, rfl⟩
      rw [hLV] at cb V0 n0 d0
      rw [hHV] at cc V1 n1 d1
      have HLV := Lib.hid hLV
      have HHV := Lib.hid hHV
      have HLb := Lib.hid hLb
      have HL := Lib.hid hL
      have h000 : ((m : Int) + 1 == 0) = false := by have := h0; simpa using this
      clear e0 e1 na nb n0 n1 hQ hs hLb hLs hLp hL hA hcns HA hB h hl hLV hHV o0 o1 q0 q1 oa ob qa qb qab ga gb gc h0 h1
      go_wp2_with fail
      refine (quant_any _ _ _ _ _ _ hI (by omega)).mono ?_
      rintro e w1 ⟨⟨r, rfl, hr⟩, hb⟩
      have HW1 := HW.trans (hb.mono HW.size)
      have hI1 := hI.next hb
      obtain rfl : PV = r := (hnum (by rw [hr]; exact Va.out.1) Va.out.2).symm
      rw [Ea.out]
      clear hr hb HW hI
      go_wp2_with fail
      refine (quant_any _ _ _ _ _ _ hI1 (by omega)).mono ?_
      rintro e w2 ⟨⟨r, rfl, hr⟩, hb⟩
      have HW2 := HW1.trans (hb.mono HW1.size)
      have hI2 := hI1.next hb
      obtain rfl : QV = r := (hnum (by rw [hr]; exact Vb.out.1) Vb.out.2).symm
      rw [Eb.out]
      clear hr hb HW1 hI1
      go_wp2_with fail
      refine (quant_any _ _ _ _ _ _ hI2 (by omega)).mono ?_
      rintro e w3 ⟨⟨r, rfl, hr⟩, hb⟩
      have HW3 := HW2.trans (hb.mono HW2.size)
      have hI3 := hI2.next hb
      obtain rfl : LV = r := (hnum (by rw [hr]; exact V0.out.1) V0.out.2).symm
      rw [E0.out]
      clear hr hb HW2 hI2
      go_wp2_with fail
      refine (quant_any _ _ _ _ _ _ hI3 (by omega)).mono ?_
      rintro e w4 ⟨⟨r, rfl, hr⟩, hb⟩
      have HW4 := HW3.trans (hb.mono HW3.size)
      have hI4 := hI3.next hb
      obtain rfl : HV = r := (hnum (by rw [hr]; exact V1.out.1) V1.out.2).symm
      rw [E1.out]
      clear hr hb HW3 hI3
      go_wp2_with fail
      refine (rsort_some _ _ _ _ _ hI4 (by omega) (by omega)).mono ?_
      rintro e w5 ⟨A5, c5, rs, rfl, hS, hcn, hpm, hb⟩
      have HW5 := HW4.trans (hb.mono HW4.size)
      obtain rfl : rs = L.map F := raw_F (by rw [hcn, HL.out]) fun x hx => by have := HLb.out x hx; omega
      clear hcn hpm hb HW4 hI4
      obtain ⟨ad5, rfl⟩ := nums_ad hS (by omega)
      have k0 := nums_cell hS (show 0 < m + 1 by omega)
      have k1 := nums_cell hS (show m < m + 1 by omega)
      rw [getD_F, HLV.out] at k0
      rw [getD_F, HHV.out] at k1
      have m0 : (0 : Int) ≤ (m : Int) := by omega
      have m1 : (m : Int) < (m : Int) + 1 := by omega
      have m2 : (0 : Int) < (m : Int) + 1 := by omega
      have k00 : w5.cell? ad5 = some (.float .f64 LV) := by have e : ad5.add 0 = ad5 := rfl; rwa [e] at k0
      clear Va Ea Vb Eb V0 E0 V1 E1 HL HLb HLV HHV hpos
      go_wp2_with fail
      refine (awake_any _).mono ?_
      rintro e w6 ⟨rfl, hb⟩
      have HW6 := HW5.trans (hb.mono HW5.size)
      go_wp2_with fail
      go_ret
      exact ⟨rfl, HW6⟩
theorem quarter_walk (A : Option Addr) (n c : Nat) (l : List Int) (a b : Nat) (w : World) (h : IsInts .i64 w A n c l) (ha : (Lit.float .f64 a).wf = true) (hb : (Lit.float .f64 b).wf = true) :
    Calls Try.prog 10 #[.slice A n c, .float .f64 a, .float .f64 b] w fun e w' => e = .returned (.bool true) ∧ Below w.heap.size w w' := by
  cases h0 : ((n : Int) == 0)
  · cases h1 : decide ((200 : Int) < n)
    · cases ga : (FloatKind.f64.format.order a 0 == some .gt || FloatKind.f64.format.order a 0 == some .eq)
      · exact quarter_2 A n c a b w h0 h1 ga
      · cases gb : (FloatKind.f64.format.order a b == some .lt || FloatKind.f64.format.order a b == some .eq)
        · exact quarter_3 A n c a b w h0 h1 ga gb
        · cases gc : (FloatKind.f64.format.order b 4607182418800017408 == some .lt || FloatKind.f64.format.order b 4607182418800017408 == some .eq)
          · exact quarter_4 A n c a b w h0 h1 ga gb gc
          · exact quarter_x A n c a b l w h h0 h1 ga gb gc
    · exact quarter_1 A n c a b w h0 h1
  · exact quarter_0 A n c a b w h0
end Go.Proofs.Ythiiicgibcgipaa.Fq
