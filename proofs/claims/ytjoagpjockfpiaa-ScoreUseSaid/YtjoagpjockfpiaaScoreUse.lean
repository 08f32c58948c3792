/- ScoreUse: the walk. For every size and two numbers of live blocks the law returns true, and nothing that was there is written. No condition. -/
import Derived.Test.YtjoagpjockfpiaaScA
namespace Go.Proofs.Ytjoagpjockfpiaa.Sc
set_option linter.unusedSimpArgs false
set_option linter.unusedVariables false
open Go.RowKit Fl

theorem use_out0 (size a b : Int) (w : World) (h : size < 0) :
    Calls Try.prog 10 #[.int .i64 size, .int .i64 a, .int .i64 b] w fun e w' => e = .returned (.bool true) ∧ Below w.heap.size w w' := by
  go_enter Try.func10, Try.ntmps10
  go_wp2_with fail
  refine (awake_any _).mono ?_
  rintro e w1 ⟨rfl, hb1⟩
  have K1 : Kp [] w w1 := (Kp.nil (w := w)).next hb1
  clear hb1
  go_wp2_with fail
  go_ret
  exact ⟨rfl, K1.bel⟩
theorem use_out1 (size a b : Int) (w : World) (h0 : 0 ≤ size) (h : 1073741824 < size) :
    Calls Try.prog 10 #[.int .i64 size, .int .i64 a, .int .i64 b] w fun e w' => e = .returned (.bool true) ∧ Below w.heap.size w w' := by
  go_enter Try.func10, Try.ntmps10
  go_wp2_with fail
  refine (awake_any _).mono ?_
  rintro e w1 ⟨rfl, hb1⟩
  have K1 : Kp [] w w1 := (Kp.nil (w := w)).next hb1
  clear hb1
  go_wp2_with fail
  go_ret
  exact ⟨rfl, K1.bel⟩
theorem use_out2 (size a b : Int) (w : World) (h0 : 0 ≤ size) (h1 : size ≤ 1073741824) (h : a < 0) :
    Calls Try.prog 10 #[.int .i64 size, .int .i64 a, .int .i64 b] w fun e w' => e = .returned (.bool true) ∧ Below w.heap.size w w' := by
  go_enter Try.func10, Try.ntmps10
  go_wp2_with fail
  refine (awake_any _).mono ?_
  rintro e w1 ⟨rfl, hb1⟩
  have K1 : Kp [] w w1 := (Kp.nil (w := w)).next hb1
  clear hb1
  go_wp2_with fail
  go_ret
  exact ⟨rfl, K1.bel⟩
theorem use_out3 (size a b : Int) (w : World) (h0 : 0 ≤ size) (h1 : size ≤ 1073741824) (h2 : 0 ≤ a) (h : b < a) :
    Calls Try.prog 10 #[.int .i64 size, .int .i64 a, .int .i64 b] w fun e w' => e = .returned (.bool true) ∧ Below w.heap.size w w' := by
  go_enter Try.func10, Try.ntmps10
  go_wp2_with fail
  refine (awake_any _).mono ?_
  rintro e w1 ⟨rfl, hb1⟩
  have K1 : Kp [] w w1 := (Kp.nil (w := w)).next hb1
  clear hb1
  go_wp2_with fail
  go_ret
  exact ⟨rfl, K1.bel⟩
theorem use_out4 (size a b : Int) (w : World) (h0 : 0 ≤ size) (h1 : size ≤ 1073741824) (h2 : 0 ≤ a) (h3 : a ≤ b) (h : size < b) :
    Calls Try.prog 10 #[.int .i64 size, .int .i64 a, .int .i64 b] w fun e w' => e = .returned (.bool true) ∧ Below w.heap.size w w' := by
  go_enter Try.func10, Try.ntmps10
  go_wp2_with fail
  refine (awake_any _).mono ?_
  rintro e w1 ⟨rfl, hb1⟩
  have K1 : Kp [] w w1 := (Kp.nil (w := w)).next hb1
  clear hb1
  go_wp2_with fail
  go_ret
  exact ⟨rfl, K1.bel⟩
set_option maxHeartbeats 1000000 in
theorem use_none (w : World) :
    Calls Try.prog 10 #[.int .i64 0, .int .i64 0, .int .i64 0] w fun e w' => e = .returned (.bool true) ∧ Below w.heap.size w w' := by
  have t1 : (FloatKind.f64.format.order (useV 0 0) (useV 0 0) != some .eq) = true := by rw [useV_nan]; decide +kernel
  go_enter Try.func10, Try.ntmps10
  go_wp2_with fail
  refine (use_yes _ _ _ _ (by decide)).mono ?_
  rintro e w1 ⟨rfl, hb1⟩
  have K1 : Kp [] w w1 := (Kp.nil (w := w)).next hb1
  clear hb1
  go_wp2_with fail
  refine (use_yes _ _ _ _ (by decide)).mono ?_
  rintro e w2 ⟨rfl, hb2⟩
  have K2 : Kp [] w w2 := K1.next hb2
  clear hb2
  go_wp2_with fail
  refine (awake_any _).mono ?_
  rintro e w3 ⟨rfl, hb3⟩
  have K3 : Kp [] w w3 := K2.next hb3
  clear hb3
  go_wp2_with fail
  go_ret
  exact ⟨rfl, K3.bel⟩
set_option maxHeartbeats 1000000 in
theorem use_some (size a b : Int) (w : World) (h0 : 0 ≤ size) (h1 : size ≤ 1073741824) (h2 : 0 ≤ a) (h3 : a ≤ b) (h4 : b ≤ size) (h5 : 0 < size) :
    Calls Try.prog 10 #[.int .i64 size, .int .i64 a, .int .i64 b] w fun e w' => e = .returned (.bool true) ∧ Below w.heap.size w w' := by
  have m1 : mayZ a size 0 = true := mayZ_mk (by omega)
  have m2 : mayZ b size 0 = true := mayZ_mk (by omega)
  have z0 : (size == 0) = false := beq_eq_false_iff_ne.2 (by omega)
  have facts : useV a size ≤ 9218868437227405312 ∧ useV b size ≤ 4607182418800017408 ∧ useV a size ≤ useV b size ∧ (useV a size = 0 ↔ a = 0) ∧ (useV b size = 4607182418800017408 ↔ b = size) := by
    obtain ⟨s, rfl⟩ := Int.eq_ofNat_of_zero_le h0
    obtain ⟨p, rfl⟩ := Int.eq_ofNat_of_zero_le h2
    obtain ⟨q, rfl⟩ := Int.eq_ofNat_of_zero_le (show 0 ≤ b by omega)
    have l1 := useV_le_one (l := p) (s := s) (by omega) (by omega) (by omega)
    have l2 := useV_le_one (l := q) (s := s) (by omega) (by omega) (by omega)
    refine ⟨by omega, l2, useV_mono (by omega) (by omega) (by omega) (by omega), ⟨fun h => ?_, fun h => ?_⟩, ⟨fun h => ?_, fun h => ?_⟩⟩
    · rcases Nat.eq_zero_or_pos p with hp | hp
      · omega
      · have := useV_pos (l := p) (s := s) hp (by omega) (by omega) (by omega); omega
    · obtain rfl : p = 0 := by omega
      exact useV_zero (by omega) (by omega)
    · rcases Nat.lt_or_ge q s with hq | hq
      · have := useV_lt_one (l := q) (s := s) hq (by omega); omega
      · omega
    · obtain rfl : q = s := by omega
      exact useV_one (by omega) (by omega)
  obtain ⟨f1, f2, f3, f4, f5⟩ := facts
  have t1 : (FloatKind.f64.format.order (useV a size) 0 == some .gt || FloatKind.f64.format.order (useV a size) 0 == some .eq) = true := by rw [p_ge f1 (by omega)]; exact decide_eq_true (by omega)
  have t2 : (FloatKind.f64.format.order (useV a size) (useV b size) == some .lt || FloatKind.f64.format.order (useV a size) (useV b size) == some .eq) = true := by rw [p_le f1 (by omega)]; exact decide_eq_true f3
  have t3 : (FloatKind.f64.format.order (useV b size) 4607182418800017408 == some .lt || FloatKind.f64.format.order (useV b size) 4607182418800017408 == some .eq) = true := by rw [p_le (by omega) (by omega)]; exact decide_eq_true f2
  have t4 : ((FloatKind.f64.format.order (useV a size) 0 == some .eq) == (a == 0)) = true := by rw [p_eq f1 (by omega), beq_iff_eq, Bool.eq_iff_iff]; simp [f4]
  have t5 : ((FloatKind.f64.format.order (useV b size) 4607182418800017408 == some .eq) == (b == size)) = true := by rw [p_eq (by omega) (by omega), beq_iff_eq, Bool.eq_iff_iff]; simp [f5]
  clear f1 f2 f3 f4 f5
  go_enter Try.func10, Try.ntmps10
  go_wp2_with fail
  refine (use_yes _ _ _ _ m1).mono ?_
  rintro e w1 ⟨rfl, hb1⟩
  have K1 : Kp [] w w1 := (Kp.nil (w := w)).next hb1
  clear hb1
  go_wp2_with fail
  refine (use_yes _ _ _ _ m2).mono ?_
  rintro e w2 ⟨rfl, hb2⟩
  have K2 : Kp [] w w2 := K1.next hb2
  clear hb2
  go_wp2_with fail
  refine (awake_any _).mono ?_
  rintro e w3 ⟨rfl, hb3⟩
  have K3 : Kp [] w w3 := K2.next hb3
  clear hb3
  go_wp2_with fail
  go_ret
  exact ⟨rfl, K3.bel⟩
theorem use_walk (size a b : Int) (w : World) (_h1 : (Lit.int .i64 size).wf = true) (_h2 : (Lit.int .i64 a).wf = true) (_h3 : (Lit.int .i64 b).wf = true) :
    Calls Try.prog 10 #[.int .i64 size, .int .i64 a, .int .i64 b] w fun e w' => e = .returned (.bool true) ∧ Below w.heap.size w w' := by
  rcases Int.lt_or_le size 0 with h0 | h0
  · exact use_out0 size a b w h0
  · rcases Int.lt_or_le 1073741824 size with h1 | h1
    · exact use_out1 size a b w h0 h1
    · rcases Int.lt_or_le a 0 with h2 | h2
      · exact use_out2 size a b w h0 h1 h2
      · rcases Int.lt_or_le b a with h3 | h3
        · exact use_out3 size a b w h0 h1 h2 h3
        · rcases Int.lt_or_le size b with h4 | h4
          · exact use_out4 size a b w h0 h1 h2 h3 h4
          · rcases Int.lt_or_le 0 size with h5 | h5
            · exact use_some size a b w h0 h1 h2 h3 h4 h5
            · obtain rfl : size = 0 := by omega
              obtain rfl : a = 0 := by omega
              obtain rfl : b = 0 := by omega
              exact use_none w
end Go.Proofs.Ytjoagpjockfpiaa.Sc
