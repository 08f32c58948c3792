/- ForderAsks: the walk. For every two numbers and every list the law returns true, and nothing that was there is written. No condition. -/
import Derived.Test.YteekeoenbackcaaFoD
namespace Go.Proofs.Yteekeoenbackcaa.So
set_option linter.unusedSimpArgs false
set_option linter.unusedVariables false
open Go.RowKit Go.Sort Go.Lib Fl Fb
attribute [local go_sem] u64_unsigned

theorem rsort_any (A : Option Addr) (n c : Nat) (l : List Nat) (w : World) (h : IsNums w A n c l) (hn : n ≤ 1000) :
    Calls Try.prog 22 #[.slice A n c] w fun e w' => ∃ A' c' rs, e = .returned (.slice A' n c') ∧ IsNums w' A' n c' rs ∧ rs.map cn = sortV l ∧ rs.Perm l ∧ Below w.heap.size w w' := by
  rcases Nat.eq_zero_or_pos n with h0 | h0
  · subst h0
    exact (rsort_zero A 0 c l w h rfl).mono fun e w' ⟨A', c', rs, he, hI, r⟩ => ⟨A', c', rs, he, hI, r⟩
  · exact rsort_some A n c l w h h0 hn
theorem map_cn_canon {l : List Nat} (h : ∀ x ∈ l, cn x = x) : l.map cn = l := by
  conv => rhs; rw [← List.map_id l]
  exact List.map_congr_left h
set_option maxHeartbeats 1000000 in
theorem asks_long (a b : Nat) (A : Option Addr) (n c : Nat) (w : World) (h1 : decide ((n : Int) ≤ 300) = false) :
    Calls Try.prog 5 #[.float .f64 a, .float .f64 b, .slice A n c] w fun e w' => e = .returned (.bool true) ∧ Below w.heap.size w w' := by
  go_enter Try.func5, Try.ntmps5
  go_wp2_with fail
  refine (small_any _ _ _ _).mono ?_
  rintro e w' ⟨rfl, rfl⟩
  go_wp2_with fail
  refine (awake_any _).mono ?_
  rintro e wz ⟨rfl, hbz⟩
  go_wp2_with fail
  go_ret
  exact ⟨rfl, hbz⟩
set_option maxHeartbeats 4000000 in
theorem asks_zero (a b : Nat) (A : Option Addr) (c : Nat) (l : List Nat) (w : World) (ha : lt64 a) (hb : lt64 b) (hA : IsNums w A 0 c l) (hn : 0 ≤ 300) :
    Calls Try.prog 5 #[.float .f64 a, .float .f64 b, .slice A 0 c] w fun e w' => e = .returned (.bool true) ∧ Below w.heap.size w w' := by
  have q1 : decide (((0 : Nat) : Int) ≤ 300) = true := decide_eq_true (by omega)
  have s1 : sameB 0 0 = true := sameB_yes rfl
  go_enter Try.func5, Try.ntmps5
  go_wp2_with fail
  refine (small_any _ _ _ _).mono ?_
  rintro e w' ⟨rfl, rfl⟩
  go_wp2_with fail
  refine (min_none _ _ _).mono ?_
  rintro e w' ⟨rfl, rfl⟩
  go_wp2_with fail
  refine (rmost_none _ _ (-1) _).mono ?_
  rintro e w' ⟨rfl, rfl⟩
  go_wp2_with fail
  refine (max_none _ _ _).mono ?_
  rintro e w' ⟨rfl, rfl⟩
  go_wp2_with fail
  refine (rmost_none _ _ 1 _).mono ?_
  rintro e w' ⟨rfl, rfl⟩
  go_wp2_with fail
  refine (cmp_any _ _ _ ha hb).mono ?_
  rintro e w' ⟨rfl, rfl⟩
  go_wp2_with fail
  refine (rcmp_any _ _ _ ha hb).mono ?_
  rintro e w' ⟨rfl, rfl⟩
  go_wp2_with fail
  refine (sort_any _ _ _ _ _ hA (by omega)).mono ?_
  rintro e w1 ⟨A1, c1, rfl, hS, hb1⟩
  have B1 := hb1
  have hA_1 := hA.next hb1
  clear hA
  clear hb1
  go_wp2_with fail
  refine (rsort_any _ _ _ _ _ hA_1 (by omega)).mono ?_
  rintro e w2 ⟨A2, c2, rs, rfl, hR, hcn, hpm, hb2⟩
  have B2 := B1.trans (hb2.mono B1.size)
  have hA_2 := hA_1.next hb2
  clear hA_1
  have hS_2 := hS.next hb2
  clear hS
  clear hb2
  go_wp2_with fail
  refine (nums_any _ _ _ _ _ _ _ _ hS_2 hR (by omega) (by rw [hcn, map_cn_canon (sortV_canon l)])).mono ?_
  rintro e w3 ⟨rfl, q3, hq3⟩
  have hb3 : Go.RowKit.Below (w2).heap.size w2 w3 := hq3 ▸ below_drawn _ q3
  clear hq3
  have B3 := B2.trans (hb3.mono B2.size)
  have hA_3 := hA_2.next hb3
  clear hA_2
  have hS_3 := hS_2.next hb3
  clear hS_2
  have hR_3 := hR.next hb3
  clear hR
  clear hb3
  go_wp2_with fail
  refine (rsame_any _ _ _).mono ?_
  rintro e w' ⟨rfl, rfl⟩
  go_wp2_with fail
  refine (rsame_any _ _ _).mono ?_
  rintro e w' ⟨rfl, rfl⟩
  go_wp2_with fail
  refine (awake_any _).mono ?_
  rintro e wz ⟨rfl, hbz⟩
  go_wp2_with fail
  go_ret
  exact ⟨rfl, B3.trans (hbz.mono B3.size)⟩
set_option maxHeartbeats 4000000 in
theorem asks_some (a b : Nat) (A : Option Addr) (n c : Nat) (l : List Nat) (w : World) (ha : lt64 a) (hb : lt64 b) (hA : IsNums w A n c l) (hn : n ≤ 300) (h0 : ((n : Int) == 0) = false) :
    Calls Try.prog 5 #[.float .f64 a, .float .f64 b, .slice A n c] w fun e w' => e = .returned (.bool true) ∧ Below w.heap.size w w' := by
  have q1 : decide (((n : Nat) : Int) ≤ 300) = true := decide_eq_true (by omega)
  have s1 : sameB (mostV (-1) l) (mostV (-1) l) = true := sameB_yes rfl
  have s2 : sameB (mostV 1 l) (mostV 1 l) = true := sameB_yes rfl
  go_enter Try.func5, Try.ntmps5
  go_wp2_with fail
  refine (small_any _ _ _ _).mono ?_
  rintro e w' ⟨rfl, rfl⟩
  go_wp2_with fail
  refine (min_some _ _ _ _ _ hA (by omega) h0).mono ?_
  rintro e w1 ⟨rfl, hb1⟩
  have B1 := hb1
  have hA_1 := hA.next hb1
  clear hA
  clear hb1
  go_wp2_with fail
  refine (rmost_some _ _ _ _ (-1) _ hA_1 (by omega) h0 (by decide)).mono ?_
  rintro e w2 ⟨rfl, hb2⟩
  have B2 := B1.trans (hb2.mono B1.size)
  have hA_2 := hA_1.next hb2
  clear hA_1
  clear hb2
  go_wp2_with fail
  refine (max_some _ _ _ _ _ hA_2 (by omega) h0).mono ?_
  rintro e w3 ⟨rfl, hb3⟩
  have B3 := B2.trans (hb3.mono B2.size)
  have hA_3 := hA_2.next hb3
  clear hA_2
  clear hb3
  go_wp2_with fail
  refine (rmost_some _ _ _ _ 1 _ hA_3 (by omega) h0 (by decide)).mono ?_
  rintro e w4 ⟨rfl, hb4⟩
  have B4 := B3.trans (hb4.mono B3.size)
  have hA_4 := hA_3.next hb4
  clear hA_3
  clear hb4
  go_wp2_with fail
  refine (cmp_any _ _ _ ha hb).mono ?_
  rintro e w' ⟨rfl, rfl⟩
  go_wp2_with fail
  refine (rcmp_any _ _ _ ha hb).mono ?_
  rintro e w' ⟨rfl, rfl⟩
  go_wp2_with fail
  refine (sort_any _ _ _ _ _ hA_4 (by omega)).mono ?_
  rintro e w5 ⟨A1, c1, rfl, hS, hb5⟩
  have B5 := B4.trans (hb5.mono B4.size)
  have hA_5 := hA_4.next hb5
  clear hA_4
  clear hb5
  go_wp2_with fail
  refine (rsort_any _ _ _ _ _ hA_5 (by omega)).mono ?_
  rintro e w6 ⟨A2, c2, rs, rfl, hR, hcn, hpm, hb6⟩
  have B6 := B5.trans (hb6.mono B5.size)
  have hA_6 := hA_5.next hb6
  clear hA_5
  have hS_6 := hS.next hb6
  clear hS
  clear hb6
  go_wp2_with fail
  refine (nums_any _ _ _ _ _ _ _ _ hS_6 hR (by omega) (by rw [hcn, map_cn_canon (sortV_canon l)])).mono ?_
  rintro e w7 ⟨rfl, q7, hq7⟩
  have hb7 : Go.RowKit.Below (w6).heap.size w6 w7 := hq7 ▸ below_drawn _ q7
  clear hq7
  have B7 := B6.trans (hb7.mono B6.size)
  have hA_7 := hA_6.next hb7
  clear hA_6
  have hS_7 := hS_6.next hb7
  clear hS_6
  have hR_7 := hR.next hb7
  clear hR
  clear hb7
  go_wp2_with fail
  refine (rsame_any _ _ _).mono ?_
  rintro e w' ⟨rfl, rfl⟩
  go_wp2_with fail
  refine (rsame_any _ _ _).mono ?_
  rintro e w' ⟨rfl, rfl⟩
  go_wp2_with fail
  refine (awake_any _).mono ?_
  rintro e wz ⟨rfl, hbz⟩
  go_wp2_with fail
  go_ret
  exact ⟨rfl, B7.trans (hbz.mono B7.size)⟩
theorem asks_walk (a b : Nat) (A : Option Addr) (n c : Nat) (l : List Nat) (w : World) (ha : (Lit.float .f64 a).wf = true) (hb : (Lit.float .f64 b).wf = true) (hA : IsNums w A n c l) :
    Calls Try.prog 5 #[.float .f64 a, .float .f64 b, .slice A n c] w fun e w' => e = .returned (.bool true) ∧ Below w.heap.size w w' := by
  rcases Nat.lt_or_ge 300 n with h1 | h1
  · exact asks_long a b A n c w (decide_eq_false (by omega))
  · rcases Nat.eq_zero_or_pos n with h0 | h0
    · subst h0; exact asks_zero a b A c l w (lt64_of ha) (lt64_of hb) hA (by omega)
    · exact asks_some a b A n c l w (lt64_of ha) (lt64_of hb) hA h1 (beq_eq_false_iff_ne.2 (by omega))
end Go.Proofs.Yteekeoenbackcaa.So
