/- ForderEnds: the walk. For every list of numbers the law returns true, and nothing that was there is written. No condition. -/
import Derived.Test.YteekeoenbackcaaForderLine
import Derived.Test.YteekeoenbackcaaFoE
namespace Go.Proofs.Yteekeoenbackcaa.So
set_option linter.unusedSimpArgs false
set_option linter.unusedVariables false
open Go.RowKit Go.Sort Go.Lib Fl Fb
attribute [local go_sem] u64_unsigned

set_option maxHeartbeats 1000000 in
theorem ends_long (A : Option Addr) (n c : Nat) (w : World) (h1 : decide ((n : Int) ≤ 300) = false) :
    Calls Try.prog 6 #[.slice A n c] w fun e w' => e = .returned (.bool true) ∧ Below w.heap.size w w' := by
  go_enter Try.func6, Try.ntmps6
  go_wp2_with fail
  refine (small_any _ _ _ _).mono ?_
  rintro e w' ⟨rfl, rfl⟩
  go_wp2_with fail
  refine (awake_any _).mono ?_
  rintro e wz ⟨rfl, hbz⟩
  go_wp2_with fail
  go_ret
  exact ⟨rfl, hbz⟩
set_option maxHeartbeats 1000000 in
theorem ends_none (A : Option Addr) (c : Nat) (w : World) :
    Calls Try.prog 6 #[.slice A 0 c] w fun e w' => e = .returned (.bool true) ∧ Below w.heap.size w w' := by
  go_enter Try.func6, Try.ntmps6
  go_wp2_with fail
  refine (small_any _ _ _ _).mono ?_
  rintro e w' ⟨rfl, rfl⟩
  go_wp2_with fail
  refine (awake_any _).mono ?_
  rintro e wz ⟨rfl, hbz⟩
  go_wp2_with fail
  go_ret
  exact ⟨rfl, hbz⟩
set_option maxRecDepth 100000 in
set_option maxHeartbeats 4000000 in
theorem ends_nan (A : Option Addr) (m c : Nat) (l : List Nat) (w : World) (hA : IsNums w A (m + 1) c l) (hn : m + 1 ≤ 300) (hn2 : l.any nanB' = true) :
    Calls Try.prog 6 #[.slice A (m + 1) c] w fun e w' => e = .returned (.bool true) ∧ Below w.heap.size w w' := by
  have q1 : decide ((((m + 1) : Nat) : Int) ≤ 300) = true := decide_eq_true (by omega)
  have hl := hA.len
  have hlast := ends_last (l := l) hA.wf (by omega)
  rw [show l.length - 1 = m by omega] at hlast
  have hyw : lt64 ((sortV l).getD m 0) := getD_lt (sortV_lt hA.wf) m
  have h0 : (((m + 1 : Nat) : Int) == 0) = false := beq_eq_false_iff_ne.2 (by omega)
  have HMIN := Lib.hid (most_nans (way := -1) hn2)
  have HMAX := Lib.hid (most_nans (way := 1) hn2)
  obtain ⟨y, hy⟩ : ∃ y, (sortV l).getD m 0 = y := ⟨_, rfl⟩
  rw [hy] at hlast
  have ty := t_ne_nan (hlast.2 hn2)
  have tc : (FloatKind.f64.format.order 9221120237041090560 9221120237041090560 != some .eq) = true := by decide
  obtain ⟨f, hf⟩ : ∃ f, (sortV l).getD 0 0 = f := ⟨_, rfl⟩
  have HL := Lib.hid hy
  have HF := Lib.hid hf
  clear hy hf hn2 hlast hl hyw
  go_enter Try.func6, Try.ntmps6
  go_wp2_with fail
  refine (small_any _ _ _ _).mono ?_
  rintro e w' ⟨rfl, rfl⟩
  go_wp2_with fail
  refine (sort_any _ _ _ _ _ hA (by omega)).mono ?_
  rintro e w1 ⟨A1, c1, rfl, hS, hb1⟩
  have B1 := hb1
  have hA_1 := hA.next hb1
  clear hA
  clear hb1
  go_wp2_with fail
  refine (min_some _ _ _ _ _ hA_1 (by omega) h0).mono ?_
  rintro e w2 ⟨rfl, hb2⟩
  rw [HMIN.out]
  have B2 := B1.trans (hb2.mono B1.size)
  have hA_2 := hA_1.next hb2
  clear hA_1
  have hS_2 := hS.next hb2
  clear hS
  clear hb2
  go_wp2_with fail
  refine (max_some _ _ _ _ _ hA_2 (by omega) h0).mono ?_
  rintro e w3 ⟨rfl, hb3⟩
  rw [HMAX.out]
  have B3 := B2.trans (hb3.mono B2.size)
  have hA_3 := hA_2.next hb3
  clear hA_2
  have hS_3 := hS_2.next hb3
  clear hS_2
  clear hb3
  obtain ⟨ad, rfl⟩ := nums_ad hS_3 (by omega)
  have cL := nums_cell hS_3 (j := m) (by omega)
  have c0 := nums_cell hS_3 (j := 0) (by omega)
  rw [HL.out] at cL
  rw [add_zero_, HF.out] at c0
  clear hS_3
  go_wp2_with fail
  refine (awake_any _).mono ?_
  rintro e wz ⟨rfl, hbz⟩
  go_wp2_with fail
  go_ret
  exact ⟨rfl, B3.trans (hbz.mono B3.size)⟩
set_option maxRecDepth 100000 in
set_option maxHeartbeats 4000000 in
theorem ends_num (A : Option Addr) (m c : Nat) (l : List Nat) (w : World) (hA : IsNums w A (m + 1) c l) (hn : m + 1 ≤ 300) (hn2 : l.any nanB' = false) :
    Calls Try.prog 6 #[.slice A (m + 1) c] w fun e w' => e = .returned (.bool true) ∧ Below w.heap.size w w' := by
  have q1 : decide ((((m + 1) : Nat) : Int) ≤ 300) = true := decide_eq_true (by omega)
  have hl := hA.len
  have hlast := ends_last (l := l) hA.wf (by omega)
  rw [show l.length - 1 = m by omega] at hlast
  have hyw : lt64 ((sortV l).getD m 0) := getD_lt (sortV_lt hA.wf) m
  have h0 : (((m + 1 : Nat) : Int) == 0) = false := beq_eq_false_iff_ne.2 (by omega)
  have g1 := ends_min hA.wf (by omega) hn2
  have g2 := ends_max hA.wf (by omega) hn2
  rw [show l.length - 1 = m by omega] at g2
  obtain ⟨p, hp⟩ : ∃ p, mostV (-1) l = p := ⟨_, rfl⟩
  obtain ⟨q, hq⟩ : ∃ q, mostV 1 l = q := ⟨_, rfl⟩
  have HMIN := Lib.hid hp
  have HMAX := Lib.hid hq
  obtain ⟨y, hy⟩ : ∃ y, (sortV l).getD m 0 = y := ⟨_, rfl⟩
  rw [hy] at hlast g2
  rw [hp] at g1
  rw [hq] at g2
  have ty := t_ne_num (x := y) (by
        rcases Nat.lt_or_ge 9218868437227405312 (rg y) with g | g
        · have := hlast.1 g; rw [hn2] at this; cases this
        · exact g)
  obtain ⟨f, hf⟩ : ∃ f, (sortV l).getD 0 0 = f := ⟨_, rfl⟩
  have HL := Lib.hid hy
  have HF := Lib.hid hf
  rw [hf] at g1
  have T1 := Lib.hid g1
  have T2 := Lib.hid g2
  clear g1 g2 hp hq
  clear hy hf hn2 hlast hl hyw
  go_enter Try.func6, Try.ntmps6
  go_wp2_with fail
  refine (small_any _ _ _ _).mono ?_
  rintro e w' ⟨rfl, rfl⟩
  go_wp2_with fail
  refine (sort_any _ _ _ _ _ hA (by omega)).mono ?_
  rintro e w1 ⟨A1, c1, rfl, hS, hb1⟩
  have B1 := hb1
  have hA_1 := hA.next hb1
  clear hA
  clear hb1
  go_wp2_with fail
  refine (min_some _ _ _ _ _ hA_1 (by omega) h0).mono ?_
  rintro e w2 ⟨rfl, hb2⟩
  rw [HMIN.out]
  have B2 := B1.trans (hb2.mono B1.size)
  have hA_2 := hA_1.next hb2
  clear hA_1
  have hS_2 := hS.next hb2
  clear hS
  clear hb2
  go_wp2_with fail
  refine (max_some _ _ _ _ _ hA_2 (by omega) h0).mono ?_
  rintro e w3 ⟨rfl, hb3⟩
  rw [HMAX.out]
  have B3 := B2.trans (hb3.mono B2.size)
  have hA_3 := hA_2.next hb3
  clear hA_2
  have hS_3 := hS_2.next hb3
  clear hS_2
  clear hb3
  obtain ⟨ad, rfl⟩ := nums_ad hS_3 (by omega)
  have cL := nums_cell hS_3 (j := m) (by omega)
  have c0 := nums_cell hS_3 (j := 0) (by omega)
  rw [HL.out] at cL
  rw [add_zero_, HF.out] at c0
  clear hS_3
  go_wp2_with fail
  refine (same_z p f true _ T1.out).mono ?_
  rintro e w' ⟨rfl, rfl⟩
  go_wp2_with fail
  refine (same_z q y true _ T2.out).mono ?_
  rintro e w' ⟨rfl, rfl⟩
  go_wp2_with fail
  refine (awake_any _).mono ?_
  rintro e wz ⟨rfl, hbz⟩
  go_wp2_with fail
  go_ret
  exact ⟨rfl, B3.trans (hbz.mono B3.size)⟩
theorem ends_walk (A : Option Addr) (n c : Nat) (l : List Nat) (w : World) (hA : IsNums w A n c l) :
    Calls Try.prog 6 #[.slice A n c] w fun e w' => e = .returned (.bool true) ∧ Below w.heap.size w w' := by
  rcases Nat.lt_or_ge 300 n with h1 | h1
  · exact ends_long A n c w (decide_eq_false (by omega))
  · rcases Nat.eq_zero_or_pos n with h0 | h0
    · subst h0; exact ends_none A c w
    · obtain ⟨m, rfl⟩ : ∃ m, n = m + 1 := ⟨n - 1, by omega⟩
      cases hn : l.any nanB'
      · exact ends_num A m c l w hA h1 hn
      · exact ends_nan A m c l w hA h1 hn
end Go.Proofs.Yteekeoenbackcaa.So
