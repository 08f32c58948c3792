/- ScoreFewer: the walk. For all six numbers the law returns true, and nothing that was there is written. No condition. -/
import Derived.Test.YtjoagpjockfpiaaScA
namespace Go.Proofs.Ytjoagpjockfpiaa.Sc
set_option linter.unusedSimpArgs false
set_option linter.unusedVariables false
open Go.RowKit Fl

theorem fewer_out0 (size a b s t now : Int) (w : World) (c1 : size < 1) :
    Calls Try.prog 9 #[.int .i64 size, .int .i64 a, .int .i64 b, .int .i64 s, .int .i64 t, .int .i64 now] w fun e w' => e = .returned (.bool true) ∧ Below w.heap.size w w' := by
  go_enter Try.func9, Try.ntmps9
  go_wp2_with fail
  refine (awake_any _).mono ?_
  rintro e w1 ⟨rfl, hb1⟩
  have K1 : Kp [] w w1 := (Kp.nil (w := w)).next hb1
  clear hb1
  go_wp2_with fail
  go_ret
  exact ⟨rfl, K1.bel⟩
theorem fewer_out1 (size a b s t now : Int) (w : World) (c1 : 1 ≤ size) (c2 : 1048576 < size) :
    Calls Try.prog 9 #[.int .i64 size, .int .i64 a, .int .i64 b, .int .i64 s, .int .i64 t, .int .i64 now] w fun e w' => e = .returned (.bool true) ∧ Below w.heap.size w w' := by
  go_enter Try.func9, Try.ntmps9
  go_wp2_with fail
  refine (awake_any _).mono ?_
  rintro e w1 ⟨rfl, hb1⟩
  have K1 : Kp [] w w1 := (Kp.nil (w := w)).next hb1
  clear hb1
  go_wp2_with fail
  go_ret
  exact ⟨rfl, K1.bel⟩
theorem fewer_out2 (size a b s t now : Int) (w : World) (c1 : 1 ≤ size) (c2 : size ≤ 1048576) (c3 : a < 0) :
    Calls Try.prog 9 #[.int .i64 size, .int .i64 a, .int .i64 b, .int .i64 s, .int .i64 t, .int .i64 now] w fun e w' => e = .returned (.bool true) ∧ Below w.heap.size w w' := by
  go_enter Try.func9, Try.ntmps9
  go_wp2_with fail
  refine (awake_any _).mono ?_
  rintro e w1 ⟨rfl, hb1⟩
  have K1 : Kp [] w w1 := (Kp.nil (w := w)).next hb1
  clear hb1
  go_wp2_with fail
  go_ret
  exact ⟨rfl, K1.bel⟩
theorem fewer_out3 (size a b s t now : Int) (w : World) (c1 : 1 ≤ size) (c2 : size ≤ 1048576) (c3 : 0 ≤ a) (c4 : b < a) :
    Calls Try.prog 9 #[.int .i64 size, .int .i64 a, .int .i64 b, .int .i64 s, .int .i64 t, .int .i64 now] w fun e w' => e = .returned (.bool true) ∧ Below w.heap.size w w' := by
  go_enter Try.func9, Try.ntmps9
  go_wp2_with fail
  refine (awake_any _).mono ?_
  rintro e w1 ⟨rfl, hb1⟩
  have K1 : Kp [] w w1 := (Kp.nil (w := w)).next hb1
  clear hb1
  go_wp2_with fail
  go_ret
  exact ⟨rfl, K1.bel⟩
theorem fewer_out4 (size a b s t now : Int) (w : World) (c1 : 1 ≤ size) (c2 : size ≤ 1048576) (c3 : 0 ≤ a) (c4 : a ≤ b) (c5 : size < b) :
    Calls Try.prog 9 #[.int .i64 size, .int .i64 a, .int .i64 b, .int .i64 s, .int .i64 t, .int .i64 now] w fun e w' => e = .returned (.bool true) ∧ Below w.heap.size w w' := by
  go_enter Try.func9, Try.ntmps9
  go_wp2_with fail
  refine (awake_any _).mono ?_
  rintro e w1 ⟨rfl, hb1⟩
  have K1 : Kp [] w w1 := (Kp.nil (w := w)).next hb1
  clear hb1
  go_wp2_with fail
  go_ret
  exact ⟨rfl, K1.bel⟩
theorem fewer_out5 (size a b s t now : Int) (w : World) (c1 : 1 ≤ size) (c2 : size ≤ 1048576) (c3 : 0 ≤ a) (c4 : a ≤ b) (c5 : b ≤ size) (c6 : s < 0) :
    Calls Try.prog 9 #[.int .i64 size, .int .i64 a, .int .i64 b, .int .i64 s, .int .i64 t, .int .i64 now] w fun e w' => e = .returned (.bool true) ∧ Below w.heap.size w w' := by
  go_enter Try.func9, Try.ntmps9
  go_wp2_with fail
  refine (awake_any _).mono ?_
  rintro e w1 ⟨rfl, hb1⟩
  have K1 : Kp [] w w1 := (Kp.nil (w := w)).next hb1
  clear hb1
  go_wp2_with fail
  go_ret
  exact ⟨rfl, K1.bel⟩
theorem fewer_out6 (size a b s t now : Int) (w : World) (c1 : 1 ≤ size) (c2 : size ≤ 1048576) (c3 : 0 ≤ a) (c4 : a ≤ b) (c5 : b ≤ size) (c6 : 0 ≤ s) (c7 : t < s) :
    Calls Try.prog 9 #[.int .i64 size, .int .i64 a, .int .i64 b, .int .i64 s, .int .i64 t, .int .i64 now] w fun e w' => e = .returned (.bool true) ∧ Below w.heap.size w w' := by
  go_enter Try.func9, Try.ntmps9
  go_wp2_with fail
  refine (awake_any _).mono ?_
  rintro e w1 ⟨rfl, hb1⟩
  have K1 : Kp [] w w1 := (Kp.nil (w := w)).next hb1
  clear hb1
  go_wp2_with fail
  go_ret
  exact ⟨rfl, K1.bel⟩
theorem fewer_out7 (size a b s t now : Int) (w : World) (c1 : 1 ≤ size) (c2 : size ≤ 1048576) (c3 : 0 ≤ a) (c4 : a ≤ b) (c5 : b ≤ size) (c6 : 0 ≤ s) (c7 : s ≤ t) (c8 : now < t) :
    Calls Try.prog 9 #[.int .i64 size, .int .i64 a, .int .i64 b, .int .i64 s, .int .i64 t, .int .i64 now] w fun e w' => e = .returned (.bool true) ∧ Below w.heap.size w w' := by
  go_enter Try.func9, Try.ntmps9
  go_wp2_with fail
  refine (awake_any _).mono ?_
  rintro e w1 ⟨rfl, hb1⟩
  have K1 : Kp [] w w1 := (Kp.nil (w := w)).next hb1
  clear hb1
  go_wp2_with fail
  go_ret
  exact ⟨rfl, K1.bel⟩
theorem fewer_out8 (size a b s t now : Int) (w : World) (c1 : 1 ≤ size) (c2 : size ≤ 1048576) (c3 : 0 ≤ a) (c4 : a ≤ b) (c5 : b ≤ size) (c6 : 0 ≤ s) (c7 : s ≤ t) (c8 : t ≤ now) (c9 : 1073741824 < now) :
    Calls Try.prog 9 #[.int .i64 size, .int .i64 a, .int .i64 b, .int .i64 s, .int .i64 t, .int .i64 now] w fun e w' => e = .returned (.bool true) ∧ Below w.heap.size w w' := by
  go_enter Try.func9, Try.ntmps9
  go_wp2_with fail
  refine (awake_any _).mono ?_
  rintro e w1 ⟨rfl, hb1⟩
  have K1 : Kp [] w w1 := (Kp.nil (w := w)).next hb1
  clear hb1
  go_wp2_with fail
  go_ret
  exact ⟨rfl, K1.bel⟩
theorem sc_facts (size a b s t now : Int) (c1 : 1 ≤ size) (c2 : size ≤ 1048576) (c3 : 0 ≤ a) (c4 : a ≤ b) (c5 : b ≤ size) (c6 : 0 ≤ s) (c7 : s ≤ t) (c8 : t ≤ now) (c9 : now ≤ 1073741824) (ha : 0 < a) : scoreV (useV a size) (now - t) ≤ 9218868437227405312 ∧ scoreV (useV b size) (now - t) ≤ scoreV (useV a size) (now - t) ∧ scoreV (useV b size) (now - t) ≤ scoreV (useV b size) (now - s) ∧ scoreV (useV b size) (now - s) ≤ 9218868437227405312 := by
  obtain ⟨n, rfl⟩ := Int.eq_ofNat_of_zero_le (show 0 ≤ size by omega)
  obtain ⟨p, rfl⟩ := Int.eq_ofNat_of_zero_le (show 0 ≤ a by omega)
  obtain ⟨q, rfl⟩ := Int.eq_ofNat_of_zero_le (show 0 ≤ b by omega)
  obtain ⟨d, hd⟩ := Int.eq_ofNat_of_zero_le (show 0 ≤ now - t by omega)
  obtain ⟨e, he⟩ := Int.eq_ofNat_of_zero_le (show 0 ≤ now - s by omega)
  have l1 := useV_le_one (l := p) (s := n) (by omega) (by omega) (by omega)
  have l2 := useV_le_one (l := q) (s := n) (by omega) (by omega) (by omega)
  have l3 := useV_mono (l := p) (k := q) (s := n) (by omega) (by omega) (by omega) (by omega)
  rw [hd, he]
  exact ⟨score_small _ _ l1 (by omega), score_mono l3 l2 (by omega) (by omega), score_mono (Nat.le_refl _) l2 (by omega) (by omega), score_small _ _ l2 (by omega)⟩
theorem sc_small (size a b s t now : Int) (c1 : 1 ≤ size) (c2 : size ≤ 1048576) (c3 : 0 ≤ a) (c4 : a ≤ b) (c5 : b ≤ size) (c6 : 0 ≤ s) (c7 : s ≤ t) (c8 : t ≤ now) (c9 : now ≤ 1073741824) : scoreV (useV b size) (now - t) ≤ 9218868437227405312 ∧ scoreV (useV b size) (now - t) ≤ scoreV (useV b size) (now - s) ∧ scoreV (useV b size) (now - s) ≤ 9218868437227405312 := by
  obtain ⟨n, rfl⟩ := Int.eq_ofNat_of_zero_le (show 0 ≤ size by omega)
  obtain ⟨q, rfl⟩ := Int.eq_ofNat_of_zero_le (show 0 ≤ b by omega)
  obtain ⟨d, hd⟩ := Int.eq_ofNat_of_zero_le (show 0 ≤ now - t by omega)
  obtain ⟨e, he⟩ := Int.eq_ofNat_of_zero_le (show 0 ≤ now - s by omega)
  have l2 := useV_le_one (l := q) (s := n) (by omega) (by omega) (by omega)
  rw [hd, he]
  exact ⟨score_small _ _ l2 (by omega), score_mono (Nat.le_refl _) l2 (by omega) (by omega), score_small _ _ l2 (by omega)⟩
set_option maxHeartbeats 1000000 in
theorem fewer_num (size a b s t now : Int) (w : World) (c1 : 1 ≤ size) (c2 : size ≤ 1048576) (c3 : 0 ≤ a) (c4 : a ≤ b) (c5 : b ≤ size) (c6 : 0 ≤ s) (c7 : s ≤ t) (c8 : t ≤ now) (c9 : now ≤ 1073741824) (hx : 0 < a) :
    Calls Try.prog 9 #[.int .i64 size, .int .i64 a, .int .i64 b, .int .i64 s, .int .i64 t, .int .i64 now] w fun e w' => e = .returned (.bool true) ∧ Below w.heap.size w w' := by
  have m1 : mayZ a size t = true := mayZ_mk (by omega)
  have m2 : mayZ b size t = true := mayZ_mk (by omega)
  have m3 : mayZ b size s = true := mayZ_mk (by omega)
  have hy : 0 < b := by omega
  obtain ⟨f1, f2, f3, f4⟩ := sc_facts size a b s t now c1 c2 c3 c4 c5 c6 c7 c8 c9 hx
  have t1 : (FloatKind.f64.format.order (scoreV (useV a size) (now - t)) (scoreV (useV b size) (now - t)) == some .gt || FloatKind.f64.format.order (scoreV (useV a size) (now - t)) (scoreV (useV b size) (now - t)) == some .eq) = true := by rw [p_ge (f1) (by omega)]; exact decide_eq_true (f2)
  have t2 : (FloatKind.f64.format.order (scoreV (useV b size) (now - s)) (scoreV (useV b size) (now - t)) == some .gt || FloatKind.f64.format.order (scoreV (useV b size) (now - s)) (scoreV (useV b size) (now - t)) == some .eq) = true := by rw [p_ge (f4) (by omega)]; exact decide_eq_true (f3)
  have t3 : (FloatKind.f64.format.order (scoreV (useV b size) (now - t)) 0 == some .gt || FloatKind.f64.format.order (scoreV (useV b size) (now - t)) 0 == some .eq) = true := by rw [p_ge (by omega) (by omega)]; exact decide_eq_true (by omega)
  clear f1 f2 f3 f4
  go_enter Try.func9, Try.ntmps9
  go_wp2_with fail
  refine (score_num _ _ _ _ _ m1 (by omega) (by omega) (.inl hx)).mono ?_
  rintro e w1 ⟨rfl, hb1⟩
  have K1 : Kp [] w w1 := (Kp.nil (w := w)).next hb1
  clear hb1
  go_wp2_with fail
  refine (score_num _ _ _ _ _ m2 (by omega) (by omega) (.inl hy)).mono ?_
  rintro e w2 ⟨rfl, hb2⟩
  have K2 : Kp [] w w2 := K1.next hb2
  clear hb2
  go_wp2_with fail
  refine (score_num _ _ _ _ _ m3 (by omega) (by omega) (.inl hy)).mono ?_
  rintro e w3 ⟨rfl, hb3⟩
  have K3 : Kp [] w w3 := K2.next hb3
  clear hb3
  go_wp2_with fail
  refine (awake_any _).mono ?_
  rintro e w4 ⟨rfl, hb4⟩
  have K4 : Kp [] w w4 := K3.next hb4
  clear hb4
  go_wp2_with fail
  go_ret
  exact ⟨rfl, K4.bel⟩
set_option maxHeartbeats 1000000 in
theorem fewer_inf (size b s t now : Int) (w : World) (c1 : 1 ≤ size) (c2 : size ≤ 1048576) (c4 : 0 ≤ b) (c5 : b ≤ size) (c6 : 0 ≤ s) (c7 : s ≤ t) (c8 : t ≤ now) (c9 : now ≤ 1073741824) (hy : 0 < b) :
    Calls Try.prog 9 #[.int .i64 size, .int .i64 0, .int .i64 b, .int .i64 s, .int .i64 t, .int .i64 now] w fun e w' => e = .returned (.bool true) ∧ Below w.heap.size w w' := by
  have m1 : mayZ 0 size t = true := mayZ_mk (by omega)
  have m2 : mayZ b size t = true := mayZ_mk (by omega)
  have m3 : mayZ b size s = true := mayZ_mk (by omega)
  obtain ⟨f1, f3, f4⟩ := sc_small size 0 b s t now c1 c2 (by omega) c4 c5 c6 c7 c8 c9
  have t1 : (FloatKind.f64.format.order 9218868437227405312 (scoreV (useV b size) (now - t)) == some .gt || FloatKind.f64.format.order 9218868437227405312 (scoreV (useV b size) (now - t)) == some .eq) = true := by rw [p_ge (by omega) (by omega)]; exact decide_eq_true (f1)
  have t2 : (FloatKind.f64.format.order (scoreV (useV b size) (now - s)) (scoreV (useV b size) (now - t)) == some .gt || FloatKind.f64.format.order (scoreV (useV b size) (now - s)) (scoreV (useV b size) (now - t)) == some .eq) = true := by rw [p_ge (f4) (by omega)]; exact decide_eq_true (f3)
  have t3 : (FloatKind.f64.format.order (scoreV (useV b size) (now - t)) 0 == some .gt || FloatKind.f64.format.order (scoreV (useV b size) (now - t)) 0 == some .eq) = true := by rw [p_ge (by omega) (by omega)]; exact decide_eq_true (by omega)
  clear f1 f3 f4
  go_enter Try.func9, Try.ntmps9
  go_wp2_with fail
  refine (score_inf _ _ _ _ _ m1 (by omega) (by omega) rfl (by omega)).mono ?_
  rintro e w1 ⟨rfl, hb1⟩
  have K1 : Kp [] w w1 := (Kp.nil (w := w)).next hb1
  clear hb1
  go_wp2_with fail
  refine (score_num _ _ _ _ _ m2 (by omega) (by omega) (.inl hy)).mono ?_
  rintro e w2 ⟨rfl, hb2⟩
  have K2 : Kp [] w w2 := K1.next hb2
  clear hb2
  go_wp2_with fail
  refine (score_num _ _ _ _ _ m3 (by omega) (by omega) (.inl hy)).mono ?_
  rintro e w3 ⟨rfl, hb3⟩
  have K3 : Kp [] w w3 := K2.next hb3
  clear hb3
  go_wp2_with fail
  refine (awake_any _).mono ?_
  rintro e w4 ⟨rfl, hb4⟩
  have K4 : Kp [] w w4 := K3.next hb4
  clear hb4
  go_wp2_with fail
  go_ret
  exact ⟨rfl, K4.bel⟩
set_option maxHeartbeats 1000000 in
theorem fewer_two (size s t now : Int) (w : World) (c1 : 1 ≤ size) (c2 : size ≤ 1048576) (c6 : 0 ≤ s) (c7 : s ≤ t) (c8 : t ≤ now) (c9 : now ≤ 1073741824) :
    Calls Try.prog 9 #[.int .i64 size, .int .i64 0, .int .i64 0, .int .i64 s, .int .i64 t, .int .i64 now] w fun e w' => e = .returned (.bool true) ∧ Below w.heap.size w w' := by
  have m1 : mayZ 0 size t = true := mayZ_mk (by omega)
  have m3 : mayZ 0 size s = true := mayZ_mk (by omega)
  have t1 : (FloatKind.f64.format.order 9218868437227405312 9218868437227405312 == some .gt || FloatKind.f64.format.order 9218868437227405312 9218868437227405312 == some .eq) = true := by rw [p_ge (by omega) (by omega)]; exact decide_eq_true (by omega)
  have t3 : (FloatKind.f64.format.order 9218868437227405312 0 == some .gt || FloatKind.f64.format.order 9218868437227405312 0 == some .eq) = true := by rw [p_ge (by omega) (by omega)]; exact decide_eq_true (by omega)
  go_enter Try.func9, Try.ntmps9
  go_wp2_with fail
  refine (score_inf _ _ _ _ _ m1 (by omega) (by omega) rfl (by omega)).mono ?_
  rintro e w1 ⟨rfl, hb1⟩
  have K1 : Kp [] w w1 := (Kp.nil (w := w)).next hb1
  clear hb1
  go_wp2_with fail
  refine (score_inf _ _ _ _ _ m1 (by omega) (by omega) rfl (by omega)).mono ?_
  rintro e w2 ⟨rfl, hb2⟩
  have K2 : Kp [] w w2 := K1.next hb2
  clear hb2
  go_wp2_with fail
  refine (score_inf _ _ _ _ _ m3 (by omega) (by omega) rfl (by omega)).mono ?_
  rintro e w3 ⟨rfl, hb3⟩
  have K3 : Kp [] w w3 := K2.next hb3
  clear hb3
  go_wp2_with fail
  refine (awake_any _).mono ?_
  rintro e w4 ⟨rfl, hb4⟩
  have K4 : Kp [] w w4 := K3.next hb4
  clear hb4
  go_wp2_with fail
  go_ret
  exact ⟨rfl, K4.bel⟩
theorem fewer_walk (size a b s t now : Int) (w : World) (_h0 : (Lit.int .i64 size).wf = true) (_h1 : (Lit.int .i64 a).wf = true) (_h2 : (Lit.int .i64 b).wf = true) (_h3 : (Lit.int .i64 s).wf = true) (_h4 : (Lit.int .i64 t).wf = true) (_h5 : (Lit.int .i64 now).wf = true) :
    Calls Try.prog 9 #[.int .i64 size, .int .i64 a, .int .i64 b, .int .i64 s, .int .i64 t, .int .i64 now] w fun e w' => e = .returned (.bool true) ∧ Below w.heap.size w w' := by
  rcases Int.lt_or_le (size) (1) with c1 | c1
  · exact fewer_out0 size a b s t now w c1
  · skip
    rcases Int.lt_or_le (1048576) (size) with c2 | c2
    · exact fewer_out1 size a b s t now w c1 c2
    · skip
      rcases Int.lt_or_le (a) (0) with c3 | c3
      · exact fewer_out2 size a b s t now w c1 c2 c3
      · skip
        rcases Int.lt_or_le (b) (a) with c4 | c4
        · exact fewer_out3 size a b s t now w c1 c2 c3 c4
        · skip
          rcases Int.lt_or_le (size) (b) with c5 | c5
          · exact fewer_out4 size a b s t now w c1 c2 c3 c4 c5
          · skip
            rcases Int.lt_or_le (s) (0) with c6 | c6
            · exact fewer_out5 size a b s t now w c1 c2 c3 c4 c5 c6
            · skip
              rcases Int.lt_or_le (t) (s) with c7 | c7
              · exact fewer_out6 size a b s t now w c1 c2 c3 c4 c5 c6 c7
              · skip
                rcases Int.lt_or_le (now) (t) with c8 | c8
                · exact fewer_out7 size a b s t now w c1 c2 c3 c4 c5 c6 c7 c8
                · skip
                  rcases Int.lt_or_le (1073741824) (now) with c9 | c9
                  · exact fewer_out8 size a b s t now w c1 c2 c3 c4 c5 c6 c7 c8 c9
                  · skip
                    rcases Int.lt_or_le 0 a with hx | hx
                    · exact fewer_num size a b s t now w c1 c2 c3 c4 c5 c6 c7 c8 c9 hx
                    · obtain rfl : a = 0 := by omega
                      rcases Int.lt_or_le 0 b with hy | hy
                      · exact fewer_inf size b s t now w c1 c2 c4 c5 c6 c7 c8 c9 hy
                      · obtain rfl : b = 0 := by omega
                        exact fewer_two size s t now w c1 c2 c6 c7 c8 c9
end Go.Proofs.Ytjoagpjockfpiaa.Sc
