/- ForderJoins: the walk. For every two lists of numbers the law returns true, and nothing that was there is written. No condition. -/
import Derived.Test.YteekeoenbackcaaForderLine
import Derived.Test.YteekeoenbackcaaFoE
namespace Go.Proofs.Yteekeoenbackcaa.So
set_option linter.unusedSimpArgs false
set_option linter.unusedVariables false
open Go.RowKit Go.Sort Go.Lib Fl Fb
attribute [local go_sem] u64_unsigned

set_option maxHeartbeats 1000000 in
theorem joins_longA (A B : Option Addr) (n c m d : Nat) (w : World) (h1 : decide ((n : Int) ≤ 300) = false) :
    Calls Try.prog 7 #[.slice A n c, .slice B m d] w fun e w' => e = .returned (.bool true) ∧ Below w.heap.size w w' := by
  go_enter Try.func7, Try.ntmps7
  go_wp2_with fail
  refine (small_any _ _ _ _).mono ?_
  rintro e w' ⟨rfl, rfl⟩
  go_wp2_with fail
  refine (awake_any _).mono ?_
  rintro e wz ⟨rfl, hbz⟩
  go_wp2_with fail
  go_ret
  exact ⟨rfl, hbz⟩
set_option maxHeartbeats 1000000 in
theorem joins_longB (A B : Option Addr) (n c m d : Nat) (w : World) (h1 : decide ((n : Int) ≤ 300) = true) (h2 : decide ((m : Int) ≤ 300) = false) :
    Calls Try.prog 7 #[.slice A n c, .slice B m d] w fun e w' => e = .returned (.bool true) ∧ Below w.heap.size w w' := by
  go_enter Try.func7, Try.ntmps7
  go_wp2_with fail
  refine (small_any _ _ _ _).mono ?_
  rintro e w' ⟨rfl, rfl⟩
  go_wp2_with fail
  refine (small_any _ _ _ _).mono ?_
  rintro e w' ⟨rfl, rfl⟩
  go_wp2_with fail
  refine (awake_any _).mono ?_
  rintro e wz ⟨rfl, hbz⟩
  go_wp2_with fail
  go_ret
  exact ⟨rfl, hbz⟩
set_option maxHeartbeats 1000000 in
theorem joins_noneA (A B : Option Addr) (c m d : Nat) (w : World) (h2 : decide ((m : Int) ≤ 300) = true) :
    Calls Try.prog 7 #[.slice A 0 c, .slice B m d] w fun e w' => e = .returned (.bool true) ∧ Below w.heap.size w w' := by
  go_enter Try.func7, Try.ntmps7
  go_wp2_with fail
  refine (small_any _ _ _ _).mono ?_
  rintro e w' ⟨rfl, rfl⟩
  go_wp2_with fail
  refine (small_any _ _ _ _).mono ?_
  rintro e w' ⟨rfl, rfl⟩
  go_wp2_with fail
  refine (awake_any _).mono ?_
  rintro e wz ⟨rfl, hbz⟩
  go_wp2_with fail
  go_ret
  exact ⟨rfl, hbz⟩
set_option maxHeartbeats 1000000 in
theorem joins_noneB (A B : Option Addr) (n c d : Nat) (w : World) (h1 : decide ((n : Int) ≤ 300) = true) (h0 : ((n : Int) == 0) = false) :
    Calls Try.prog 7 #[.slice A n c, .slice B 0 d] w fun e w' => e = .returned (.bool true) ∧ Below w.heap.size w w' := by
  go_enter Try.func7, Try.ntmps7
  go_wp2_with fail
  refine (small_any _ _ _ _).mono ?_
  rintro e w' ⟨rfl, rfl⟩
  go_wp2_with fail
  refine (small_any _ _ _ _).mono ?_
  rintro e w' ⟨rfl, rfl⟩
  go_wp2_with fail
  refine (awake_any _).mono ?_
  rintro e wz ⟨rfl, hbz⟩
  go_wp2_with fail
  go_ret
  exact ⟨rfl, hbz⟩
set_option maxHeartbeats 4000000 in
theorem joins_x (A B : Option Addr) (n c m d : Nat) (l r : List Nat) (w : World) (hA : IsNums w A n c l) (hB : IsNums w B m d r) (hn : n ≤ 300) (hm : m ≤ 300) (h0 : ((n : Int) == 0) = false) (h00 : ((m : Int) == 0) = false) :
    Calls Try.prog 7 #[.slice A n c, .slice B m d] w fun e w' => e = .returned (.bool true) ∧ Below w.heap.size w w' := by
  have u1 : decide (((n : Nat) : Int) ≤ 300) = true := decide_eq_true (by omega)
  have u2 : decide (((m : Nat) : Int) ≤ 300) = true := decide_eq_true (by omega)
  have hl := hA.len
  have hr := hB.len
  have h000 : (((n + m : Nat) : Int) == 0) = false := beq_eq_false_iff_ne.2 (by have := beq_eq_false_iff_ne.1 h0; omega)
  have lp : 0 < l.length := by have := beq_eq_false_iff_ne.1 h0; omega
  have rp : 0 < r.length := by have := beq_eq_false_iff_ne.1 h00; omega
  have g1 := join_same l r (-1) (by simp) lp rp hA.wf hB.wf
  have pw1 : mostV (-1) l < 18446744073709551616 := most_lt64 hA.wf
  have qw1 : mostV (-1) r < 18446744073709551616 := most_lt64 hB.wf
  obtain ⟨p1, hp1⟩ : ∃ p, mostV (-1) l = p := ⟨_, rfl⟩
  obtain ⟨q1, hq1⟩ : ∃ p, mostV (-1) r = p := ⟨_, rfl⟩
  rw [hp1] at g1 pw1
  rw [hq1] at g1 qw1
  obtain ⟨x1, hx1⟩ : ∃ p, mostV (-1) (l ++ r) = p := ⟨_, rfl⟩
  obtain ⟨y1, hy1⟩ : ∃ p, mostV (-1) [p1, q1] = p := ⟨_, rfl⟩
  rw [hx1, hy1] at g1
  have Hp1 := Lib.hid hp1
  have Hq1 := Lib.hid hq1
  have Hx1 := Lib.hid hx1
  have Hy1 := Lib.hid hy1
  have T1 := Lib.hid g1
  clear hp1 hq1 hx1 hy1 g1
  have g2 := join_same l r 1 (by simp) lp rp hA.wf hB.wf
  have pw2 : mostV 1 l < 18446744073709551616 := most_lt64 hA.wf
  have qw2 : mostV 1 r < 18446744073709551616 := most_lt64 hB.wf
  obtain ⟨p2, hp2⟩ : ∃ p, mostV 1 l = p := ⟨_, rfl⟩
  obtain ⟨q2, hq2⟩ : ∃ p, mostV 1 r = p := ⟨_, rfl⟩
  rw [hp2] at g2 pw2
  rw [hq2] at g2 qw2
  obtain ⟨x2, hx2⟩ : ∃ p, mostV 1 (l ++ r) = p := ⟨_, rfl⟩
  obtain ⟨y2, hy2⟩ : ∃ p, mostV 1 [p2, q2] = p := ⟨_, rfl⟩
  rw [hx2, hy2] at g2
  have Hp2 := Lib.hid hp2
  have Hq2 := Lib.hid hq2
  have Hx2 := Lib.hid hx2
  have Hy2 := Lib.hid hy2
  have T2 := Lib.hid g2
  clear hp2 hq2 hx2 hy2 g2
  obtain ⟨i0, hi, hz0, hz1, hz2⟩ := info_parts infoF
  go_enter Try.func7, Try.ntmps7
  go_wp2_with fail
  refine (small_any _ _ _ _).mono ?_
  rintro e w' ⟨rfl, rfl⟩
  go_wp2_with fail
  refine (small_any _ _ _ _).mono ?_
  rintro e w' ⟨rfl, rfl⟩
  go_wp2_with (first
    | (at_builtin; refine wpList_appN _ rfl (.tmp 41) (.tmp 42) 22 rfl w.heap.size 27 i0 (.float .f64 0) 8 Try.underlying22 hi hz0 hz1 hz2 rfl _ 0 [] (by rfl) (by exact World.ownsRow_lit w #[] 0 (Nat.le_refl _) (by decide) rfl) w.heap.size A n c (l.map (Value.float .f64)) (by rfl) (by simp [hl]) (by exact (hA.rd.alloc (Nat.le_refl _) _)) one_float (by omega) (by omega) (by first | simp | exact HW1.size) ?_; intro v1 w1 hO1 hG1; have HW1 : Go.RowKit.Below w.heap.size w w1 := ((Below.refl _ _).alloc (Nat.le_refl _) _).grown hG1 (by simp) (fun g hg => Nat.le_of_eq (Option.some.inj (show some w.heap.size = some g from hg))))
    | (at_builtin; refine wpList_appN _ rfl (.tmp 43) (.tmp 44) 22 rfl w.heap.size 27 i0 (.float .f64 0) 8 Try.underlying22 hi hz0 hz1 hz2 rfl v1 (0 + n) ([] ++ l.map (Value.float .f64)) (by rfl) (by exact hO1) w.heap.size B m d (r.map (Value.float .f64)) (by rfl) (by simp [hr]) (by exact (hB.rd.next (Nat.le_refl _) HW1)) one_float (by omega) (by omega) (by first | simp | exact HW1.size) ?_; intro v2 w2 hO2 hG2))
  have HW2 : Go.RowKit.Below w.heap.size w w2 := HW1.grown hG2 HW1.size (fun g hg => (hO1.lt g hg).1)
  rw [show 0 + n + m = n + m by omega, List.nil_append] at hO2
  obtain ⟨A3, c3, rfl, hJ⟩ := nums_of_own (l := l ++ r) (by rw [List.map_append]; exact hO2) (by
    intro x hx
    rcases List.mem_append.1 hx with g | g
    · exact hA.wf x g
    · exact hB.wf x g)
  have hA2 := hA.next HW2
  have hB2 := hB.next HW2
  clear hO1 hO2 hG1 hG2 HW1 hA hB
  go_wp2_with fail
  refine (min_some _ _ _ _ _ hJ (by omega) h000).mono ?_
  rintro e w3 ⟨rfl, hb3⟩
  rw [Hx1.out]
  have B3 := HW2.trans (hb3.mono HW2.size)
  have hA_3 := hA2.next hb3
  clear hA2
  have hB_3 := hB2.next hb3
  clear hB2
  have hJ_3 := hJ.next hb3
  clear hJ
  clear hb3
  go_wp2_with fail
  refine (min_some _ _ _ _ _ hA_3 (by omega) h0).mono ?_
  rintro e w4 ⟨rfl, hb4⟩
  rw [Hp1.out]
  have B4 := B3.trans (hb4.mono B3.size)
  have hA_4 := hA_3.next hb4
  clear hA_3
  have hB_4 := hB_3.next hb4
  clear hB_3
  have hJ_4 := hJ_3.next hb4
  clear hJ_3
  clear hb4
  go_wp2_with fail
  refine (min_some _ _ _ _ _ hB_4 (by omega) h00).mono ?_
  rintro e w5 ⟨rfl, hb5⟩
  rw [Hq1.out]
  have B5 := B4.trans (hb5.mono B4.size)
  have hA_5 := hA_4.next hb5
  clear hA_4
  have hB_5 := hB_4.next hb5
  clear hB_4
  have hJ_5 := hJ_4.next hb5
  clear hJ_4
  clear hb5
  go_wp2_with fail
  refine (min_some _ 2 2 [p1, q1] _ (IsNums.lit w5 27 [p1, q1] (by intro x hx; simp at hx; rcases hx with rfl | rfl <;> assumption) (by simp)) (by omega) (by decide)).mono ?_
  rintro e w6 ⟨rfl, hb60⟩
  rw [Hy1.out]
  have hb6 := ((Go.RowKit.Below.refl w5.heap.size w5).alloc (Nat.le_refl _) (.cells ([p1, q1].map (Value.float .f64)).toArray 27)).trans (hb60.mono (by simp))
  clear hb60
  have B6 := B5.trans (hb6.mono B5.size)
  have hA_6 := hA_5.next hb6
  clear hA_5
  have hB_6 := hB_5.next hb6
  clear hB_5
  have hJ_6 := hJ_5.next hb6
  clear hJ_5
  clear hb6
  go_wp2_with fail
  refine (max_some _ _ _ _ _ hJ_6 (by omega) h000).mono ?_
  rintro e w7 ⟨rfl, hb7⟩
  rw [Hx2.out]
  have B7 := B6.trans (hb7.mono B6.size)
  have hA_7 := hA_6.next hb7
  clear hA_6
  have hB_7 := hB_6.next hb7
  clear hB_6
  have hJ_7 := hJ_6.next hb7
  clear hJ_6
  clear hb7
  go_wp2_with fail
  refine (max_some _ _ _ _ _ hA_7 (by omega) h0).mono ?_
  rintro e w8 ⟨rfl, hb8⟩
  rw [Hp2.out]
  have B8 := B7.trans (hb8.mono B7.size)
  have hA_8 := hA_7.next hb8
  clear hA_7
  have hB_8 := hB_7.next hb8
  clear hB_7
  have hJ_8 := hJ_7.next hb8
  clear hJ_7
  clear hb8
  go_wp2_with fail
  refine (max_some _ _ _ _ _ hB_8 (by omega) h00).mono ?_
  rintro e w9 ⟨rfl, hb9⟩
  rw [Hq2.out]
  have B9 := B8.trans (hb9.mono B8.size)
  have hA_9 := hA_8.next hb9
  clear hA_8
  have hB_9 := hB_8.next hb9
  clear hB_8
  have hJ_9 := hJ_8.next hb9
  clear hJ_8
  clear hb9
  go_wp2_with fail
  refine (max_some _ 2 2 [p2, q2] _ (IsNums.lit w9 27 [p2, q2] (by intro x hx; simp at hx; rcases hx with rfl | rfl <;> assumption) (by simp)) (by omega) (by decide)).mono ?_
  rintro e w10 ⟨rfl, hb100⟩
  rw [Hy2.out]
  have hb10 := ((Go.RowKit.Below.refl w9.heap.size w9).alloc (Nat.le_refl _) (.cells ([p2, q2].map (Value.float .f64)).toArray 27)).trans (hb100.mono (by simp))
  clear hb100
  have B10 := B9.trans (hb10.mono B9.size)
  have hA_10 := hA_9.next hb10
  clear hA_9
  have hB_10 := hB_9.next hb10
  clear hB_9
  have hJ_10 := hJ_9.next hb10
  clear hJ_9
  clear hb10
  go_wp2_with fail
  refine (same_z x1 y1 true _ T1.out).mono ?_
  rintro e w' ⟨rfl, rfl⟩
  go_wp2_with fail
  refine (same_z x2 y2 true _ T2.out).mono ?_
  rintro e w' ⟨rfl, rfl⟩
  go_wp2_with fail
  refine (awake_any _).mono ?_
  rintro e wz ⟨rfl, hbz⟩
  go_wp2_with fail
  go_ret
  exact ⟨rfl, B10.trans (hbz.mono B10.size)⟩
theorem joins_walk (A : Option Addr) (n c : Nat) (l : List Nat) (B : Option Addr) (m d : Nat) (r : List Nat) (w : World) (hA : IsNums w A n c l) (hB : IsNums w B m d r) :
    Calls Try.prog 7 #[.slice A n c, .slice B m d] w fun e w' => e = .returned (.bool true) ∧ Below w.heap.size w w' := by
  rcases Nat.lt_or_ge 300 n with h1 | h1
  · exact joins_longA A B n c m d w (decide_eq_false (by omega))
  rcases Nat.lt_or_ge 300 m with h2 | h2
  · exact joins_longB A B n c m d w (decide_eq_true (by omega)) (decide_eq_false (by omega))
  rcases Nat.eq_zero_or_pos n with h0 | h0
  · subst h0; exact joins_noneA A B c m d w (decide_eq_true (by omega))
  rcases Nat.eq_zero_or_pos m with h00 | h00
  · subst h00; exact joins_noneB A B n c d w (decide_eq_true (by omega)) (beq_eq_false_iff_ne.2 (by omega))
  · exact joins_x A B n c m d l r w hA hB h1 h2 (beq_eq_false_iff_ne.2 (by omega)) (beq_eq_false_iff_ne.2 (by omega))
end Go.Proofs.Yteekeoenbackcaa.So
