/- FsumMiddle: the walk. For every list of whole numbers the law returns true, and nothing that was there is written. No condition. -/
import Derived.Test.YthiiicgibcgipaaFsG
import Derived.Test.YthiiicgibcgipaaFlW
namespace Go.Proofs.Ythiiicgibcgipaa.Fs
set_option linter.unusedSimpArgs false
set_option linter.unusedVariables false
open Go.RowKit Fl Fb
attribute [local go_sem] and_sgn andNot_sgn xor_sgn xor_all run_neg_float u64_unsigned

theorem raw_F {rs : List Nat} {l : List Int} (h : rs.map cn = l.map F) (hb : ∀ x ∈ l, x.natAbs ≤ 9007199254740991) : rs = l.map F := by
  have hlen : rs.length = l.length := by have := congrArg List.length h; simpa using this
  refine List.ext_getElem (by simp [hlen]) fun i h1 h2 => ?_
  have e : (rs.map cn)[i]'(by simpa using h1) = (l.map F)[i]'h2 := by simp only [h]
  rw [List.getElem_map] at e
  have hm : l[i]'(by omega) ∈ l := List.getElem_mem _
  have hf := F_fin (hb _ hm)
  rcases Nat.lt_or_ge 9218868437227405312 (rg rs[i]) with g | g
  · rw [cn_nan g, List.getElem_map] at e
    rw [← e] at hf
    exact absurd hf (by decide)
  · rw [cn_num g] at e
    exact e
/-- the least and the greatest of what was seen. -/
def minmax (l : List Int) (k : Nat) (lo hi : Int) : Prop := lo ∈ l ∧ hi ∈ l ∧ ∀ x ∈ l.take k, lo ≤ x ∧ x ≤ hi
theorem minmax.next {l : List Int} {k : Nat} {lo hi x : Int} (h : minmax l k lo hi) (hk : k < l.length) (hx : l[k] = x) : minmax l (k + 1) (if x < lo then x else lo) (if hi < x then x else hi) := by
  obtain ⟨h1, h2, h3⟩ := h
  have hm : x ∈ l := hx ▸ List.getElem_mem _
  refine ⟨?_, ?_, fun y hy => ?_⟩
  · split
    · exact hm
    · exact h1
  · split
    · exact hm
    · exact h2
  · rw [List.take_succ_eq_append_getElem hk, hx] at hy
    rcases List.mem_append.1 hy with g | g
    · have := h3 y g; split <;> split <;> omega
    · rw [List.mem_singleton] at g; subst g; split <;> split <;> omega
set_option maxRecDepth 100000 in
set_option maxHeartbeats 4000000 in
theorem middle_x (A : Option Addr) (n c : Nat) (l : List Int) (w : World) (h : IsInts .i64 w A n c l) (h0 : ((n : Int) == 0) = false) (h1 : decide ((200 : Int) < n) = false) :
    Calls Try.prog 7 #[.slice A n c] w fun e w' => e = .returned (.bool true) ∧ Below w.heap.size w w' := by
  have hl := h.len
  have hn : n ≤ 200 := by have := of_decide_eq_false h1; omega
  have hpos : 0 < n := by have := beq_eq_false_iff_ne.1 h0; omega
  obtain ⟨i0, hi, hz0, hz1, hz2⟩ := info_parts infoF
  obtain ⟨ad0, rfl, hb0, hcell0⟩ := h.rd.get (k := 0) (by rw [List.length_map]; omega)
  rw [List.getElem_map] at hcell0
  obtain ⟨x0, hx00⟩ : ∃ x, l[0]'(by omega) = x := ⟨_, rfl⟩
  rw [hx00] at hcell0
  have hcell00 : w.cell? ad0 = some (.int .i64 x0) := by have e : ad0.add 0 = ad0 := rfl; rwa [e] at hcell0
  have HX0 := Lib.hid hx00
  clear hx00
  have n0 : (0 : Int) < n := by omega
  go_enter Try.func7, Try.ntmps7
  go_wp2_with fail
  go_loopw [3, 4, 5, 6] (fun v vlo vhi i wr => ∃ (k : Nat) (rs : List Nat) (lo hi : Int), k ≤ n ∧ i = .int .i64 k ∧ vlo = .int .i64 lo ∧ vhi = .int .i64 hi ∧ Hid (minmax l k lo hi) ∧ Hid (∀ x ∈ l.take k, x.natAbs ≤ 1000000) ∧ Building w.heap.size w wr v k ((l.take k).map F) rs) (fun _ _ _ i _ => n - (intOf i).toNat)
  case atStart => exact ⟨0, [], x0, x0, Nat.zero_le _, rfl, rfl, rfl, ⟨HX0.out ▸ List.getElem_mem _, HX0.out ▸ List.getElem_mem _, by simp⟩, (by intro x hx; simp at hx), Building.start w⟩
  case round =>
    obtain ⟨k, rs, lo, hi', hk, rfl, rfl, rfl, HM, HA, hB⟩ := hrel
    clear hcell0 hcell00
    by_cases hlt : k < n
    · obtain ⟨ad, had, hbb, hcell⟩ := (h.rd.next (Nat.le_refl _) hB.bel).get (k := k) (by rw [List.length_map]; omega)
      obtain rfl : ad0 = ad := by injection had
      clear had
      rw [List.getElem_map] at hcell
      obtain ⟨x, hx0⟩ : ∃ x, l[k]'(by omega) = x := ⟨_, rfl⟩
      rw [hx0] at hcell
      have hkeep : ∀ W : World, Below w.heap.size w W → W.cell? (ad0.add k) = some (.int .i64 x) := fun W hW => by
        obtain ⟨ad, e, _, hc⟩ := (h.rd.next (Nat.le_refl _) hW).get (k := k) (by rw [List.length_map]; omega)
        injection e with e; subst e
        rw [List.getElem_map, hx0] at hc; exact hc
      have HX := Lib.hid hx0
      clear hx0
      cases h1 : decide (x < -1000000)
      · cases h2 : decide (1000000 < x)
        · have c3 : -1000000 ≤ x := by have := of_decide_eq_false h1; omega
          have c4 : x ≤ 1000000 := by have := of_decide_eq_false h2; omega
          go_wp2_with (at_builtin; go_must (refine wpList_app1 rfl _ _ 24 rfl w.heap.size 25 i0 (.float .f64 0) 8 Try.underlying24 hi hz0 hz1 hz2 rfl _ k _ (by rfl) (by exact hB.own) (by exact hB.bel.size) (by exact hB.bel) _ (by rfl) (by rfl) (by omega) (by omega) ?_); intro v' w2 hO2 hW2 _; have hcell2 : w2.cell? (ad0.add k) = some (.int .i64 x) := hkeep w2 hW2)
          go_roundw
          case rel => exact ⟨k + 1, rs ++ [F x], _, _, by omega, by go_num, rfl, rfl, HM.out.next (by omega) HX.out, fun y hy => by
              rw [List.take_succ_eq_append_getElem (by omega), HX.out] at hy
              rcases List.mem_append.1 hy with g | g
              · exact HA.out y g
              · rw [List.mem_singleton] at g; rw [g]; omega, by rw [take_mapI _ _ _ (by omega), HX.out]; exact hB.more hO2 hW2 (cn_F x) (F_lt x)⟩
          case measure => simp [intOf]; omega
        · clear HX
          go_wp2_with fail
          refine (awake_any _).mono ?_
          rintro e w2 ⟨rfl, hb2⟩
          go_wp2_with fail
          go_ret
          exact ⟨rfl, Below.trans (hB.bel) (hb2.mono (hB.bel).size)⟩
      · clear HX
        go_wp2_with fail
        refine (awake_any _).mono ?_
        rintro e w2 ⟨rfl, hb2⟩
        go_wp2_with fail
        go_ret
        exact ⟨rfl, Below.trans (hB.bel) (hb2.mono (hB.bel).size)⟩
    · obtain rfl : k = n := by omega
      obtain ⟨A2, c2, rfl, hI⟩ := nums_of_own hB.own hB.wf
      have HW := hB.bel
      have hcns := hB.cns
      obtain ⟨m1, m2, m3⟩ := HM.out
      have hA := HA.out
      rw [List.take_of_length_le (by omega)] at m3 hA hcns
      have hr := raw_F hcns fun x hx => by have := hA x hx; omega
      subst hr
      obtain ⟨r1, r2, r3, r4, r5⟩ := middle (by omega) hA m1 m2 m3
      have b1 := hA _ m1
      have b2 := hA _ m2
      have fl := F_fin (n := lo) (by omega)
      have fh := F_fin (n := hi') (by omega)
      have g1 : (FloatKind.f64.format.order (meanV (l.map F)) (floatOfInt .f64 lo) == some .gt || FloatKind.f64.format.order (meanV (l.map F)) (floatOfInt .f64 lo) == some .eq) = true := by
        show (FloatKind.f64.format.order (meanV (l.map F)) (F lo) == some .gt || FloatKind.f64.format.order (meanV (l.map F)) (F lo) == some .eq) = true
        rw [fmt64, o_gt, o_eq]; simp; omega
      have g2 : (FloatKind.f64.format.order (meanV (l.map F)) (floatOfInt .f64 hi') == some .lt || FloatKind.f64.format.order (meanV (l.map F)) (floatOfInt .f64 hi') == some .eq) = true := by
        show (FloatKind.f64.format.order (meanV (l.map F)) (F hi') == some .lt || FloatKind.f64.format.order (meanV (l.map F)) (F hi') == some .eq) = true
        rw [fmt64, o_lt, o_eq]; simp; omega
      have g3 : (FloatKind.f64.format.order (spreadV (l.map F)) 0 == some .gt) = !(lo == hi') := by
        rw [p_gt (by omega) (by omega), Bool.eq_iff_iff]; simp [← r5]; omega
      have g4 : (FloatKind.f64.format.order (spreadV (l.map F)) 0 == some .eq) = (lo == hi') := by
        rw [p_eq (by omega) (by omega), Bool.eq_iff_iff]; simp [r5]
      obtain ⟨q, hq⟩ : ∃ q, (lo == hi') = q := ⟨_, rfl⟩
      rw [hq] at g3 g4
      have hq2 : (lo != hi') = !q := by rw [bne, hq]
      obtain ⟨M, hM⟩ : ∃ M, meanV (l.map F) = M := ⟨_, rfl⟩
      obtain ⟨SP, hSP⟩ : ∃ SP, spreadV (l.map F) = SP := ⟨_, rfl⟩
      rw [hM] at g1 g2
      rw [hSP] at g3 g4
      have HM2 := Lib.hid hM
      have HSP := Lib.hid hSP
      have hne : ((k : Int) == 0) = false := h0
      clear hM hSP r1 r2 r3 r4 r5 b1 b2 fl fh m1 m2 m3 hA hcns HM HA hB h hl HX0
      go_wp2_with fail
      refine (mean_some _ _ _ _ _ hI (by omega) hne).mono ?_
      rintro e w1 ⟨rfl, hb1⟩
      have HW1 := HW.trans (hb1.mono HW.size)
      have hI1 := hI.next hb1
      rw [HM2.out]
      go_wp2_with fail
      refine (spread_some _ _ _ _ _ hI1 (by omega) hne).mono ?_
      rintro e w3 ⟨rfl, hb3⟩
      have HW3 := HW1.trans (hb3.mono HW1.size)
      rw [HSP.out]
      clear HM2 HSP hI hI1 HW HW1 hb1 hb3
      cases q
      all_goals
        go_wp2_with fail
        refine (awake_any _).mono ?_
        rintro e w2 ⟨rfl, hb2⟩
        go_wp2_with fail
        go_ret
        exact ⟨rfl, Below.trans (HW3) (hb2.mono (HW3).size)⟩
set_option maxHeartbeats 1000000 in
theorem middle_out (A : Option Addr) (n c : Nat) (w : World) (h0 : ((n : Int) == 0) = false) (h1 : decide ((200 : Int) < n) = true) :
    Calls Try.prog 7 #[.slice A n c] w fun e w' => e = .returned (.bool true) ∧ Below w.heap.size w w' := by
  go_enter Try.func7, Try.ntmps7
  go_wp2_with fail
  refine (awake_any _).mono ?_
  rintro e w2 ⟨rfl, hb2⟩
  go_wp2_with fail
  go_ret
  exact ⟨rfl, hb2⟩
set_option maxHeartbeats 1000000 in
theorem middle_none (A : Option Addr) (c : Nat) (w : World) :
    Calls Try.prog 7 #[.slice A 0 c] w fun e w' => e = .returned (.bool true) ∧ Below w.heap.size w w' := by
  go_enter Try.func7, Try.ntmps7
  go_wp2_with fail
  refine (awake_any _).mono ?_
  rintro e w2 ⟨rfl, hb2⟩
  go_wp2_with fail
  go_ret
  exact ⟨rfl, hb2⟩
theorem middle_walk (A : Option Addr) (n c : Nat) (l : List Int) (w : World) (h : IsInts .i64 w A n c l) :
    Calls Try.prog 7 #[.slice A n c] w fun e w' => e = .returned (.bool true) ∧ Below w.heap.size w w' := by
  rcases Nat.eq_zero_or_pos n with h0 | h0
  · subst h0; exact middle_none A c w
  · have t0 : ((n : Int) == 0) = false := beq_eq_false_iff_ne.2 (by omega)
    rcases Nat.lt_or_ge 200 n with h1 | h1
    · exact middle_out A n c w t0 (decide_eq_true (by omega))
    · exact middle_x A n c l w h t0 (decide_eq_false (by omega))
end Go.Proofs.Ythiiicgibcgipaa.Fs
