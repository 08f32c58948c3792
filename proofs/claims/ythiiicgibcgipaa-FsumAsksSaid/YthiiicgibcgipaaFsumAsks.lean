/- FsumAsks: the walk. For every two lists of numbers the law returns true, and nothing that was there is written. No condition. -/
import Derived.Test.YthiiicgibcgipaaFsF
namespace Go.Proofs.Ythiiicgibcgipaa.Fs
set_option linter.unusedSimpArgs false
set_option linter.unusedVariables false
open Go.RowKit Fl Fb
attribute [local go_sem] and_sgn andNot_sgn xor_sgn xor_all run_neg_float u64_unsigned

set_option maxHeartbeats 1000000 in
theorem asks_longA (A B : Option Addr) (n c m d : Nat) (w : World) (h1 : decide ((n : Int) ≤ 300) = false) :
    Calls Try.prog 8 #[.slice A n c, .slice B m d] w fun e w' => e = .returned (.bool true) ∧ Below w.heap.size w w' := by
  go_enter Try.func8, Try.ntmps8
  go_wp2_with fail
  refine (small_any _ _ _ _).mono ?_
  rintro e w' ⟨rfl, rfl⟩
  go_wp2_with fail
  refine (awake_any _).mono ?_
  rintro e w1 ⟨rfl, hb1⟩
  have K1 : Kp [] w w1 := (Kp.nil (w := w)).next hb1
  clear hb1
  go_wp2_with fail
  go_ret
  exact ⟨rfl, K1.bel⟩
set_option maxHeartbeats 1000000 in
theorem asks_longB (A B : Option Addr) (n c m d : Nat) (w : World) (h1 : decide ((n : Int) ≤ 300) = true) (h2 : decide ((m : Int) ≤ 300) = false) :
    Calls Try.prog 8 #[.slice A n c, .slice B m d] w fun e w' => e = .returned (.bool true) ∧ Below w.heap.size w w' := by
  go_enter Try.func8, Try.ntmps8
  go_wp2_with fail
  refine (small_any _ _ _ _).mono ?_
  rintro e w' ⟨rfl, rfl⟩
  go_wp2_with fail
  refine (small_any _ _ _ _).mono ?_
  rintro e w' ⟨rfl, rfl⟩
  go_wp2_with fail
  refine (awake_any _).mono ?_
  rintro e w1 ⟨rfl, hb1⟩
  have K1 : Kp [] w w1 := (Kp.nil (w := w)).next hb1
  clear hb1
  go_wp2_with fail
  go_ret
  exact ⟨rfl, K1.bel⟩
set_option maxHeartbeats 4000000 in
theorem asks_even (A B : Option Addr) (n c d : Nat) (l r : List Nat) (w : World) (hA : IsNums w A n c l) (hB : IsNums w B n d r) (hn : n ≤ 300) (h0 : ((n : Int) == 0) = false) :
    Calls Try.prog 8 #[.slice A n c, .slice B n d] w fun e w' => e = .returned (.bool true) ∧ Below w.heap.size w w' := by
  have q1 : decide (((n : Nat) : Int) ≤ 300) = true := decide_eq_true (by omega)
  have s1 : sameB (sumV l) (sumV l) = true := sameB_yes rfl
  have s2 : sameB (meanV l) (meanV l) = true := sameB_yes rfl
  have s3 : sameB (spreadV l) (spreadV l) = true := sameB_yes rfl
  have s4 : sameB (dotV l r) (dotV l r) = true := sameB_yes rfl
  go_enter Try.func8, Try.ntmps8
  go_wp2_with fail
  refine (small_any _ _ _ _).mono ?_
  rintro e w' ⟨rfl, rfl⟩
  go_wp2_with fail
  refine (small_any _ _ _ _).mono ?_
  rintro e w' ⟨rfl, rfl⟩
  go_wp2_with fail
  refine (mean_some _ _ _ _ _ hA (by omega) h0).mono ?_
  rintro e w1 ⟨rfl, hb1⟩
  have K1 : Kp [] w w1 := (Kp.nil (w := w)).next hb1
  clear hb1
  have hA1 := hA.next K1.bel
  have hB1 := hB.next K1.bel
  go_wp2_with fail
  refine (rmean_some _ _ _ _ _ hA1 (by omega) h0).mono ?_
  rintro e w2 ⟨rfl, hb2⟩
  have K2 : Kp [] w w2 := K1.next hb2
  clear hb2
  have hA2 := hA.next K2.bel
  have hB2 := hB.next K2.bel
  go_wp2_with fail
  refine (spread_some _ _ _ _ _ hA2 (by omega) h0).mono ?_
  rintro e w3 ⟨rfl, hb3⟩
  have K3 : Kp [] w w3 := K2.next hb3
  clear hb3
  have hA3 := hA.next K3.bel
  have hB3 := hB.next K3.bel
  go_wp2_with fail
  refine (rspread_some _ _ _ _ _ hA3 (by omega) h0).mono ?_
  rintro e w4 ⟨rfl, hb4⟩
  have K4 : Kp [] w w4 := K3.next hb4
  clear hb4
  have hA4 := hA.next K4.bel
  have hB4 := hB.next K4.bel
  go_wp2_with fail
  refine (dot_even _ _ _ _ _ _ _ _ hA4 hB4 (by omega)).mono ?_
  rintro e w5 ⟨rfl, hb5⟩
  have K5 : Kp [] w w5 := K4.next hb5
  clear hb5
  have hA5 := hA.next K5.bel
  have hB5 := hB.next K5.bel
  go_wp2_with fail
  refine (rdot_even _ _ _ _ _ _ _ _ hA5 hB5 (by omega)).mono ?_
  rintro e w6 ⟨rfl, hb6⟩
  have K6 : Kp [] w w6 := K5.next hb6
  clear hb6
  have hA6 := hA.next K6.bel
  have hB6 := hB.next K6.bel
  go_wp2_with fail
  refine (sum_any _ _ _ _ _ hA6 (by omega)).mono ?_
  rintro e w7 ⟨rfl, hb7⟩
  have K7 : Kp [] w w7 := K6.next hb7
  clear hb7
  have hA7 := hA.next K7.bel
  have hB7 := hB.next K7.bel
  go_wp2_with fail
  refine (rsum_any _ _ _ _ _ hA7 (by omega)).mono ?_
  rintro e w8 ⟨rfl, hb8⟩
  have K8 : Kp [] w w8 := K7.next hb8
  clear hb8
  have hA8 := hA.next K8.bel
  have hB8 := hB.next K8.bel
  go_wp2_with fail
  refine (Fb.rsame_any _ _ _).mono ?_
  rintro e w' ⟨rfl, rfl⟩
  go_wp2_with fail
  refine (Fb.rsame_any _ _ _).mono ?_
  rintro e w' ⟨rfl, rfl⟩
  go_wp2_with fail
  refine (Fb.rsame_any _ _ _).mono ?_
  rintro e w' ⟨rfl, rfl⟩
  go_wp2_with fail
  refine (Fb.rsame_any _ _ _).mono ?_
  rintro e w' ⟨rfl, rfl⟩
  go_wp2_with fail
  refine (awake_any _).mono ?_
  rintro e w9 ⟨rfl, hb9⟩
  have K9 : Kp [] w w9 := K8.next hb9
  clear hb9
  go_wp2_with fail
  go_ret
  exact ⟨rfl, K9.bel⟩
set_option maxHeartbeats 4000000 in
theorem asks_odd (A B : Option Addr) (n c m d : Nat) (l r : List Nat) (w : World) (hA : IsNums w A n c l) (hB : IsNums w B m d r) (hn : n ≤ 300) (hm : m ≤ 300) (h0 : ((n : Int) == 0) = false) (hne : ((n : Int) != (m : Int)) = true) :
    Calls Try.prog 8 #[.slice A n c, .slice B m d] w fun e w' => e = .returned (.bool true) ∧ Below w.heap.size w w' := by
  have q1 : decide (((n : Nat) : Int) ≤ 300) = true := decide_eq_true (by omega)
  have q2 : decide (((m : Nat) : Int) ≤ 300) = true := decide_eq_true (by omega)
  have s1 : sameB (sumV l) (sumV l) = true := sameB_yes rfl
  have s2 : sameB (meanV l) (meanV l) = true := sameB_yes rfl
  have s3 : sameB (spreadV l) (spreadV l) = true := sameB_yes rfl
  have s4 : sameB 0 0 = true := sameB_yes rfl
  go_enter Try.func8, Try.ntmps8
  go_wp2_with fail
  refine (small_any _ _ _ _).mono ?_
  rintro e w' ⟨rfl, rfl⟩
  go_wp2_with fail
  refine (small_any _ _ _ _).mono ?_
  rintro e w' ⟨rfl, rfl⟩
  go_wp2_with fail
  refine (mean_some _ _ _ _ _ hA (by omega) h0).mono ?_
  rintro e w1 ⟨rfl, hb1⟩
  have K1 : Kp [] w w1 := (Kp.nil (w := w)).next hb1
  clear hb1
  have hA1 := hA.next K1.bel
  have hB1 := hB.next K1.bel
  go_wp2_with fail
  refine (rmean_some _ _ _ _ _ hA1 (by omega) h0).mono ?_
  rintro e w2 ⟨rfl, hb2⟩
  have K2 : Kp [] w w2 := K1.next hb2
  clear hb2
  have hA2 := hA.next K2.bel
  have hB2 := hB.next K2.bel
  go_wp2_with fail
  refine (spread_some _ _ _ _ _ hA2 (by omega) h0).mono ?_
  rintro e w3 ⟨rfl, hb3⟩
  have K3 : Kp [] w w3 := K2.next hb3
  clear hb3
  have hA3 := hA.next K3.bel
  have hB3 := hB.next K3.bel
  go_wp2_with fail
  refine (rspread_some _ _ _ _ _ hA3 (by omega) h0).mono ?_
  rintro e w4 ⟨rfl, hb4⟩
  have K4 : Kp [] w w4 := K3.next hb4
  clear hb4
  have hA4 := hA.next K4.bel
  have hB4 := hB.next K4.bel
  go_wp2_with fail
  refine (dot_odd _ _ _ _ _ _ _ hne).mono ?_
  rintro e w' ⟨rfl, rfl⟩
  go_wp2_with fail
  refine (rdot_odd _ _ _ _ _ _ _ hne).mono ?_
  rintro e w' ⟨rfl, rfl⟩
  go_wp2_with fail
  refine (sum_any _ _ _ _ _ hA4 (by omega)).mono ?_
  rintro e w5 ⟨rfl, hb5⟩
  have K5 : Kp [] w w5 := K4.next hb5
  clear hb5
  have hA5 := hA.next K5.bel
  have hB5 := hB.next K5.bel
  go_wp2_with fail
  refine (rsum_any _ _ _ _ _ hA5 (by omega)).mono ?_
  rintro e w6 ⟨rfl, hb6⟩
  have K6 : Kp [] w w6 := K5.next hb6
  clear hb6
  have hA6 := hA.next K6.bel
  have hB6 := hB.next K6.bel
  go_wp2_with fail
  refine (Fb.rsame_any _ _ _).mono ?_
  rintro e w' ⟨rfl, rfl⟩
  go_wp2_with fail
  refine (Fb.rsame_any _ _ _).mono ?_
  rintro e w' ⟨rfl, rfl⟩
  go_wp2_with fail
  refine (Fb.rsame_any _ _ _).mono ?_
  rintro e w' ⟨rfl, rfl⟩
  go_wp2_with fail
  refine (Fb.rsame_any _ _ _).mono ?_
  rintro e w' ⟨rfl, rfl⟩
  go_wp2_with fail
  refine (awake_any _).mono ?_
  rintro e w7 ⟨rfl, hb7⟩
  have K7 : Kp [] w w7 := K6.next hb7
  clear hb7
  go_wp2_with fail
  go_ret
  exact ⟨rfl, K7.bel⟩
set_option maxHeartbeats 4000000 in
theorem asks_evenZ (A B : Option Addr) (c d : Nat) (l r : List Nat) (w : World) (hA : IsNums w A 0 c l) (hB : IsNums w B 0 d r) :
    Calls Try.prog 8 #[.slice A 0 c, .slice B 0 d] w fun e w' => e = .returned (.bool true) ∧ Below w.heap.size w w' := by
  have q1 : decide (((0 : Nat) : Int) ≤ 300) = true := decide_eq_true (by omega)
  have s1 : sameB (sumV l) (sumV l) = true := sameB_yes rfl
  have s2 : sameB 0 0 = true := sameB_yes rfl
  have s4 : sameB (dotV l r) (dotV l r) = true := sameB_yes rfl
  go_enter Try.func8, Try.ntmps8
  go_wp2_with fail
  refine (small_any _ _ _ _).mono ?_
  rintro e w' ⟨rfl, rfl⟩
  go_wp2_with fail
  refine (small_any _ _ _ _).mono ?_
  rintro e w' ⟨rfl, rfl⟩
  go_wp2_with fail
  refine (mean_none _ _ _).mono ?_
  rintro e w' ⟨rfl, rfl⟩
  go_wp2_with fail
  refine (rmean_none _ _ _).mono ?_
  rintro e w' ⟨rfl, rfl⟩
  go_wp2_with fail
  refine (spread_none _ _ _).mono ?_
  rintro e w' ⟨rfl, rfl⟩
  go_wp2_with fail
  refine (rspread_none _ _ _).mono ?_
  rintro e w' ⟨rfl, rfl⟩
  go_wp2_with fail
  refine (dot_even _ _ _ _ _ _ _ _ hA hB (by omega)).mono ?_
  rintro e w1 ⟨rfl, hb1⟩
  have K1 : Kp [] w w1 := (Kp.nil (w := w)).next hb1
  clear hb1
  have hA1 := hA.next K1.bel
  have hB1 := hB.next K1.bel
  go_wp2_with fail
  refine (rdot_even _ _ _ _ _ _ _ _ hA1 hB1 (by omega)).mono ?_
  rintro e w2 ⟨rfl, hb2⟩
  have K2 : Kp [] w w2 := K1.next hb2
  clear hb2
  have hA2 := hA.next K2.bel
  have hB2 := hB.next K2.bel
  go_wp2_with fail
  refine (sum_any _ _ _ _ _ hA2 (by omega)).mono ?_
  rintro e w3 ⟨rfl, hb3⟩
  have K3 : Kp [] w w3 := K2.next hb3
  clear hb3
  have hA3 := hA.next K3.bel
  have hB3 := hB.next K3.bel
  go_wp2_with fail
  refine (rsum_any _ _ _ _ _ hA3 (by omega)).mono ?_
  rintro e w4 ⟨rfl, hb4⟩
  have K4 : Kp [] w w4 := K3.next hb4
  clear hb4
  have hA4 := hA.next K4.bel
  have hB4 := hB.next K4.bel
  go_wp2_with fail
  refine (Fb.rsame_any _ _ _).mono ?_
  rintro e w' ⟨rfl, rfl⟩
  go_wp2_with fail
  refine (Fb.rsame_any _ _ _).mono ?_
  rintro e w' ⟨rfl, rfl⟩
  go_wp2_with fail
  refine (Fb.rsame_any _ _ _).mono ?_
  rintro e w' ⟨rfl, rfl⟩
  go_wp2_with fail
  refine (Fb.rsame_any _ _ _).mono ?_
  rintro e w' ⟨rfl, rfl⟩
  go_wp2_with fail
  refine (awake_any _).mono ?_
  rintro e w5 ⟨rfl, hb5⟩
  have K5 : Kp [] w w5 := K4.next hb5
  clear hb5
  go_wp2_with fail
  go_ret
  exact ⟨rfl, K5.bel⟩
set_option maxHeartbeats 4000000 in
theorem asks_oddZ (A B : Option Addr) (c m d : Nat) (l r : List Nat) (w : World) (hA : IsNums w A 0 c l) (hB : IsNums w B m d r) (hm : m ≤ 300) (hne : (((0 : Nat) : Int) != (m : Int)) = true) :
    Calls Try.prog 8 #[.slice A 0 c, .slice B m d] w fun e w' => e = .returned (.bool true) ∧ Below w.heap.size w w' := by
  have q1 : decide (((0 : Nat) : Int) ≤ 300) = true := decide_eq_true (by omega)
  have q2 : decide (((m : Nat) : Int) ≤ 300) = true := decide_eq_true (by omega)
  have s1 : sameB (sumV l) (sumV l) = true := sameB_yes rfl
  have s2 : sameB 0 0 = true := sameB_yes rfl
  go_enter Try.func8, Try.ntmps8
  go_wp2_with fail
  refine (small_any _ _ _ _).mono ?_
  rintro e w' ⟨rfl, rfl⟩
  go_wp2_with fail
  refine (small_any _ _ _ _).mono ?_
  rintro e w' ⟨rfl, rfl⟩
  go_wp2_with fail
  refine (mean_none _ _ _).mono ?_
  rintro e w' ⟨rfl, rfl⟩
  go_wp2_with fail
  refine (rmean_none _ _ _).mono ?_
  rintro e w' ⟨rfl, rfl⟩
  go_wp2_with fail
  refine (spread_none _ _ _).mono ?_
  rintro e w' ⟨rfl, rfl⟩
  go_wp2_with fail
  refine (rspread_none _ _ _).mono ?_
  rintro e w' ⟨rfl, rfl⟩
  go_wp2_with fail
  refine (dot_odd _ _ _ _ _ _ _ hne).mono ?_
  rintro e w' ⟨rfl, rfl⟩
  go_wp2_with fail
  refine (rdot_odd _ _ _ _ _ _ _ hne).mono ?_
  rintro e w' ⟨rfl, rfl⟩
  go_wp2_with fail
  refine (sum_any _ _ _ _ _ hA (by omega)).mono ?_
  rintro e w1 ⟨rfl, hb1⟩
  have K1 : Kp [] w w1 := (Kp.nil (w := w)).next hb1
  clear hb1
  have hA1 := hA.next K1.bel
  have hB1 := hB.next K1.bel
  go_wp2_with fail
  refine (rsum_any _ _ _ _ _ hA1 (by omega)).mono ?_
  rintro e w2 ⟨rfl, hb2⟩
  have K2 : Kp [] w w2 := K1.next hb2
  clear hb2
  have hA2 := hA.next K2.bel
  have hB2 := hB.next K2.bel
  go_wp2_with fail
  refine (Fb.rsame_any _ _ _).mono ?_
  rintro e w' ⟨rfl, rfl⟩
  go_wp2_with fail
  refine (Fb.rsame_any _ _ _).mono ?_
  rintro e w' ⟨rfl, rfl⟩
  go_wp2_with fail
  refine (Fb.rsame_any _ _ _).mono ?_
  rintro e w' ⟨rfl, rfl⟩
  go_wp2_with fail
  refine (Fb.rsame_any _ _ _).mono ?_
  rintro e w' ⟨rfl, rfl⟩
  go_wp2_with fail
  refine (awake_any _).mono ?_
  rintro e w3 ⟨rfl, hb3⟩
  have K3 : Kp [] w w3 := K2.next hb3
  clear hb3
  go_wp2_with fail
  go_ret
  exact ⟨rfl, K3.bel⟩
theorem asks_walk (A : Option Addr) (n c : Nat) (l : List Nat) (B : Option Addr) (m d : Nat) (r : List Nat) (w : World) (hA : IsNums w A n c l) (hB : IsNums w B m d r) :
    Calls Try.prog 8 #[.slice A n c, .slice B m d] w fun e w' => e = .returned (.bool true) ∧ Below w.heap.size w w' := by
  rcases Nat.lt_or_ge 300 n with h1 | h1
  · exact asks_longA A B n c m d w (decide_eq_false (by omega))
  · rcases Nat.lt_or_ge 300 m with h2 | h2
    · exact asks_longB A B n c m d w (decide_eq_true (by omega)) (decide_eq_false (by omega))
    · by_cases h3 : n = m
      · subst h3
        by_cases h4 : n = 0
        · subst h4
          exact asks_evenZ A B c d l r w hA hB
        · exact asks_even A B n c d l r w hA hB h1 (beq_eq_false_iff_ne.2 (by omega))
      · by_cases h4 : n = 0
        · subst h4
          exact asks_oddZ A B c m d l r w hA hB h2 (bne_iff_ne.2 (by omega))
        · exact asks_odd A B n c m d l r w hA hB h1 h2 (beq_eq_false_iff_ne.2 (by omega)) (bne_iff_ne.2 (by omega))
end Go.Proofs.Ythiiicgibcgipaa.Fs
