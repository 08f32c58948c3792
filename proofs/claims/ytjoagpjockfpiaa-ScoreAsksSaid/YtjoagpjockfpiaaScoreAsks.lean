/- ScoreAsks: the walk. For every zone and time the law returns true, and nothing that was there is written. No condition. -/
import Derived.Test.YtjoagpjockfpiaaScA
namespace Go.Proofs.Ytjoagpjockfpiaa.Sc
set_option linter.unusedSimpArgs false
set_option linter.unusedVariables false
open Go.RowKit Fl

set_option maxHeartbeats 1000000 in
theorem asks_bad (l s t now : Int) (w : World) (h : mayZ l s t = false) :
    Calls Try.prog 8 #[.agg #[.int .i64 l, .int .i64 s, .int .i64 t], .int .i64 now] w fun e w' => e = .returned (.bool true) ∧ Below w.heap.size w w' := by
  have s1 : sameB 0 0 = true := sameB_yes rfl
  go_enter Try.func8, Try.ntmps8
  go_wp2_with fail
  refine (use_no _ _ _ _ h).mono ?_
  rintro e w1 ⟨rfl, hb1⟩
  have K1 : Kp [(w.heap.size, 2, Value.int .i64 t), (w.heap.size, 1, Value.int .i64 s), (w.heap.size, 0, Value.int .i64 l)] w w1 := (((((Kp.nil (w := w)).alloc _).add (b := w.heap.size) (o := 0) (v := Value.int .i64 l) (by (try go_simp); (try simp); (try omega)) (by go_simp)).add (b := w.heap.size) (o := 1) (v := Value.int .i64 s) (by (try go_simp); (try simp); (try omega)) (by go_simp)).add (b := w.heap.size) (o := 2) (v := Value.int .i64 t) (by (try go_simp); (try simp); (try omega)) (by go_simp)).next hb1
  clear hb1
  have d0 := K1.head
  have d1 := K1.tail.head
  have d2 := K1.tail.tail.head
  have hl1_0 := K1.lt
  go_wp2_with fail
  refine (ruse_no _ _ _ _ h).mono ?_
  rintro e w2 ⟨rfl, hb2⟩
  have K2 : Kp [(w.heap.size, 2, Value.int .i64 t), (w.heap.size, 1, Value.int .i64 s), (w.heap.size, 0, Value.int .i64 l)] w w2 := K1.next hb2
  clear d0
  clear d1
  clear d2
  clear hb2
  have d0 := K2.head
  have d1 := K2.tail.head
  have d2 := K2.tail.tail.head
  have hl2_0 := K2.lt
  go_wp2_with fail
  refine (score_bad _ _ _ _ _ h).mono ?_
  rintro e w3 ⟨rfl, hb3⟩
  have K3 : Kp [(w.heap.size, 2, Value.int .i64 t), (w.heap.size, 1, Value.int .i64 s), (w.heap.size, 0, Value.int .i64 l)] w w3 := K2.next hb3
  clear d0
  clear d1
  clear d2
  clear hb3
  have d0 := K3.head
  have d1 := K3.tail.head
  have d2 := K3.tail.tail.head
  have hl3_0 := K3.lt
  go_wp2_with fail
  refine (rscore_bad _ _ _ _ _ h).mono ?_
  rintro e w4 ⟨rfl, hb4⟩
  have K4 : Kp [(w.heap.size, 2, Value.int .i64 t), (w.heap.size, 1, Value.int .i64 s), (w.heap.size, 0, Value.int .i64 l)] w w4 := K3.next hb4
  clear d0
  clear d1
  clear d2
  clear hb4
  have d0 := K4.head
  have d1 := K4.tail.head
  have d2 := K4.tail.tail.head
  have hl4_0 := K4.lt
  go_wp2_with fail
  refine (Fb.rsame_any _ _ _).mono ?_
  rintro e w' ⟨rfl, rfl⟩
  go_wp2_with fail
  refine (Fb.rsame_any _ _ _).mono ?_
  rintro e w' ⟨rfl, rfl⟩
  go_wp2_with fail
  refine (awake_any _).mono ?_
  rintro e w5 ⟨rfl, hb5⟩
  have K5 : Kp [(w.heap.size, 2, Value.int .i64 t), (w.heap.size, 1, Value.int .i64 s), (w.heap.size, 0, Value.int .i64 l)] w w5 := K4.next hb5
  clear d0
  clear d1
  clear d2
  clear hb5
  have d0 := K5.head
  have d1 := K5.tail.head
  have d2 := K5.tail.tail.head
  have hl5_0 := K5.lt
  go_wp2_with fail
  go_ret
  exact ⟨rfl, K5.bel⟩

set_option maxHeartbeats 1000000 in
theorem asks_old (l s t now : Int) (w : World) (h : mayZ l s t = true) (h1 : now < t) :
    Calls Try.prog 8 #[.agg #[.int .i64 l, .int .i64 s, .int .i64 t], .int .i64 now] w fun e w' => e = .returned (.bool true) ∧ Below w.heap.size w w' := by
  have s1 : sameB (useV l s) (useV l s) = true := sameB_yes rfl
  have s2 : sameB 0 0 = true := sameB_yes rfl
  go_enter Try.func8, Try.ntmps8
  go_wp2_with fail
  refine (use_yes _ _ _ _ h).mono ?_
  rintro e w1 ⟨rfl, hb1⟩
  have K1 : Kp [(w.heap.size, 2, Value.int .i64 t), (w.heap.size, 1, Value.int .i64 s), (w.heap.size, 0, Value.int .i64 l)] w w1 := (((((Kp.nil (w := w)).alloc _).add (b := w.heap.size) (o := 0) (v := Value.int .i64 l) (by (try go_simp); (try simp); (try omega)) (by go_simp)).add (b := w.heap.size) (o := 1) (v := Value.int .i64 s) (by (try go_simp); (try simp); (try omega)) (by go_simp)).add (b := w.heap.size) (o := 2) (v := Value.int .i64 t) (by (try go_simp); (try simp); (try omega)) (by go_simp)).next hb1
  clear hb1
  have d0 := K1.head
  have d1 := K1.tail.head
  have d2 := K1.tail.tail.head
  have hl1_0 := K1.lt
  go_wp2_with fail
  refine (ruse_yes _ _ _ _ h).mono ?_
  rintro e w2 ⟨rfl, hb2⟩
  have K2 : Kp [(w.heap.size, 2, Value.int .i64 t), (w.heap.size, 1, Value.int .i64 s), (w.heap.size, 0, Value.int .i64 l)] w w2 := K1.next hb2
  clear d0
  clear d1
  clear d2
  clear hb2
  have d0 := K2.head
  have d1 := K2.tail.head
  have d2 := K2.tail.tail.head
  have hl2_0 := K2.lt
  go_wp2_with fail
  refine (score_old _ _ _ _ _ h h1).mono ?_
  rintro e w3 ⟨rfl, hb3⟩
  have K3 : Kp [(w.heap.size, 2, Value.int .i64 t), (w.heap.size, 1, Value.int .i64 s), (w.heap.size, 0, Value.int .i64 l)] w w3 := K2.next hb3
  clear d0
  clear d1
  clear d2
  clear hb3
  have d0 := K3.head
  have d1 := K3.tail.head
  have d2 := K3.tail.tail.head
  have hl3_0 := K3.lt
  go_wp2_with fail
  refine (rscore_old _ _ _ _ _ h h1).mono ?_
  rintro e w4 ⟨rfl, hb4⟩
  have K4 : Kp [(w.heap.size, 2, Value.int .i64 t), (w.heap.size, 1, Value.int .i64 s), (w.heap.size, 0, Value.int .i64 l)] w w4 := K3.next hb4
  clear d0
  clear d1
  clear d2
  clear hb4
  have d0 := K4.head
  have d1 := K4.tail.head
  have d2 := K4.tail.tail.head
  have hl4_0 := K4.lt
  go_wp2_with fail
  refine (Fb.rsame_any _ _ _).mono ?_
  rintro e w' ⟨rfl, rfl⟩
  go_wp2_with fail
  refine (Fb.rsame_any _ _ _).mono ?_
  rintro e w' ⟨rfl, rfl⟩
  go_wp2_with fail
  refine (awake_any _).mono ?_
  rintro e w5 ⟨rfl, hb5⟩
  have K5 : Kp [(w.heap.size, 2, Value.int .i64 t), (w.heap.size, 1, Value.int .i64 s), (w.heap.size, 0, Value.int .i64 l)] w w5 := K4.next hb5
  clear d0
  clear d1
  clear d2
  clear hb5
  have d0 := K5.head
  have d1 := K5.tail.head
  have d2 := K5.tail.tail.head
  have hl5_0 := K5.lt
  go_wp2_with fail
  go_ret
  exact ⟨rfl, K5.bel⟩

set_option maxHeartbeats 1000000 in
theorem asks_late (l s t now : Int) (w : World) (h : mayZ l s t = true) (h1 : t ≤ now) (h2 : 1099511627776 < now) :
    Calls Try.prog 8 #[.agg #[.int .i64 l, .int .i64 s, .int .i64 t], .int .i64 now] w fun e w' => e = .returned (.bool true) ∧ Below w.heap.size w w' := by
  have s1 : sameB (useV l s) (useV l s) = true := sameB_yes rfl
  have s2 : sameB 0 0 = true := sameB_yes rfl
  go_enter Try.func8, Try.ntmps8
  go_wp2_with fail
  refine (use_yes _ _ _ _ h).mono ?_
  rintro e w1 ⟨rfl, hb1⟩
  have K1 : Kp [(w.heap.size, 2, Value.int .i64 t), (w.heap.size, 1, Value.int .i64 s), (w.heap.size, 0, Value.int .i64 l)] w w1 := (((((Kp.nil (w := w)).alloc _).add (b := w.heap.size) (o := 0) (v := Value.int .i64 l) (by (try go_simp); (try simp); (try omega)) (by go_simp)).add (b := w.heap.size) (o := 1) (v := Value.int .i64 s) (by (try go_simp); (try simp); (try omega)) (by go_simp)).add (b := w.heap.size) (o := 2) (v := Value.int .i64 t) (by (try go_simp); (try simp); (try omega)) (by go_simp)).next hb1
  clear hb1
  have d0 := K1.head
  have d1 := K1.tail.head
  have d2 := K1.tail.tail.head
  have hl1_0 := K1.lt
  go_wp2_with fail
  refine (ruse_yes _ _ _ _ h).mono ?_
  rintro e w2 ⟨rfl, hb2⟩
  have K2 : Kp [(w.heap.size, 2, Value.int .i64 t), (w.heap.size, 1, Value.int .i64 s), (w.heap.size, 0, Value.int .i64 l)] w w2 := K1.next hb2
  clear d0
  clear d1
  clear d2
  clear hb2
  have d0 := K2.head
  have d1 := K2.tail.head
  have d2 := K2.tail.tail.head
  have hl2_0 := K2.lt
  go_wp2_with fail
  refine (score_late _ _ _ _ _ h h1 h2).mono ?_
  rintro e w3 ⟨rfl, hb3⟩
  have K3 : Kp [(w.heap.size, 2, Value.int .i64 t), (w.heap.size, 1, Value.int .i64 s), (w.heap.size, 0, Value.int .i64 l)] w w3 := K2.next hb3
  clear d0
  clear d1
  clear d2
  clear hb3
  have d0 := K3.head
  have d1 := K3.tail.head
  have d2 := K3.tail.tail.head
  have hl3_0 := K3.lt
  go_wp2_with fail
  refine (rscore_late _ _ _ _ _ h h1 h2).mono ?_
  rintro e w4 ⟨rfl, hb4⟩
  have K4 : Kp [(w.heap.size, 2, Value.int .i64 t), (w.heap.size, 1, Value.int .i64 s), (w.heap.size, 0, Value.int .i64 l)] w w4 := K3.next hb4
  clear d0
  clear d1
  clear d2
  clear hb4
  have d0 := K4.head
  have d1 := K4.tail.head
  have d2 := K4.tail.tail.head
  have hl4_0 := K4.lt
  go_wp2_with fail
  refine (Fb.rsame_any _ _ _).mono ?_
  rintro e w' ⟨rfl, rfl⟩
  go_wp2_with fail
  refine (Fb.rsame_any _ _ _).mono ?_
  rintro e w' ⟨rfl, rfl⟩
  go_wp2_with fail
  refine (awake_any _).mono ?_
  rintro e w5 ⟨rfl, hb5⟩
  have K5 : Kp [(w.heap.size, 2, Value.int .i64 t), (w.heap.size, 1, Value.int .i64 s), (w.heap.size, 0, Value.int .i64 l)] w w5 := K4.next hb5
  clear d0
  clear d1
  clear d2
  clear hb5
  have d0 := K5.head
  have d1 := K5.tail.head
  have d2 := K5.tail.tail.head
  have hl5_0 := K5.lt
  go_wp2_with fail
  go_ret
  exact ⟨rfl, K5.bel⟩

set_option maxHeartbeats 1000000 in
theorem asks_nan (l s t now : Int) (w : World) (h : mayZ l s t = true) (h1 : t ≤ now) (h2 : now ≤ 1099511627776) (h3 : s = 0) :
    Calls Try.prog 8 #[.agg #[.int .i64 l, .int .i64 s, .int .i64 t], .int .i64 now] w fun e w' => e = .returned (.bool true) ∧ Below w.heap.size w w' := by
  subst h3
  obtain ⟨m1, m2, _, _, _⟩ := mayZ_yes h
  obtain rfl : l = 0 := by omega
  have s2 : sameB (scoreV (useV 0 0) (now - t)) 9221120237041090560 = true := sameB_yes (by rw [useV_nan, scoreV_nan])
  have s1 : sameB (useV 0 0) (useV 0 0) = true := sameB_yes rfl
  go_enter Try.func8, Try.ntmps8
  go_wp2_with fail
  refine (use_yes _ _ _ _ h).mono ?_
  rintro e w1 ⟨rfl, hb1⟩
  have K1 : Kp [(w.heap.size, 2, Value.int .i64 t), (w.heap.size, 1, Value.int .i64 0), (w.heap.size, 0, Value.int .i64 0)] w w1 := (((((Kp.nil (w := w)).alloc _).add (b := w.heap.size) (o := 0) (v := Value.int .i64 0) (by (try go_simp); (try simp); (try omega)) (by go_simp)).add (b := w.heap.size) (o := 1) (v := Value.int .i64 0) (by (try go_simp); (try simp); (try omega)) (by go_simp)).add (b := w.heap.size) (o := 2) (v := Value.int .i64 t) (by (try go_simp); (try simp); (try omega)) (by go_simp)).next hb1
  clear hb1
  have d0 := K1.head
  have d1 := K1.tail.head
  have d2 := K1.tail.tail.head
  have hl1_0 := K1.lt
  go_wp2_with fail
  refine (ruse_yes _ _ _ _ h).mono ?_
  rintro e w2 ⟨rfl, hb2⟩
  have K2 : Kp [(w.heap.size, 2, Value.int .i64 t), (w.heap.size, 1, Value.int .i64 0), (w.heap.size, 0, Value.int .i64 0)] w w2 := K1.next hb2
  clear d0
  clear d1
  clear d2
  clear hb2
  have d0 := K2.head
  have d1 := K2.tail.head
  have d2 := K2.tail.tail.head
  have hl2_0 := K2.lt
  go_wp2_with fail
  refine (score_num _ _ _ _ _ h h1 h2 (.inr rfl)).mono ?_
  rintro e w3 ⟨rfl, hb3⟩
  have K3 : Kp [(w.heap.size, 2, Value.int .i64 t), (w.heap.size, 1, Value.int .i64 0), (w.heap.size, 0, Value.int .i64 0)] w w3 := K2.next hb3
  clear d0
  clear d1
  clear d2
  clear hb3
  have d0 := K3.head
  have d1 := K3.tail.head
  have d2 := K3.tail.tail.head
  have hl3_0 := K3.lt
  go_wp2_with fail
  refine (rscore_nan _ _ _ _ _ h h1 h2 rfl).mono ?_
  rintro e w4 ⟨rfl, hb4⟩
  have K4 : Kp [(w.heap.size, 2, Value.int .i64 t), (w.heap.size, 1, Value.int .i64 0), (w.heap.size, 0, Value.int .i64 0)] w w4 := K3.next hb4
  clear d0
  clear d1
  clear d2
  clear hb4
  have d0 := K4.head
  have d1 := K4.tail.head
  have d2 := K4.tail.tail.head
  have hl4_0 := K4.lt
  go_wp2_with fail
  refine (Fb.rsame_any _ _ _).mono ?_
  rintro e w' ⟨rfl, rfl⟩
  go_wp2_with fail
  refine (Fb.rsame_any _ _ _).mono ?_
  rintro e w' ⟨rfl, rfl⟩
  go_wp2_with fail
  refine (awake_any _).mono ?_
  rintro e w5 ⟨rfl, hb5⟩
  have K5 : Kp [(w.heap.size, 2, Value.int .i64 t), (w.heap.size, 1, Value.int .i64 0), (w.heap.size, 0, Value.int .i64 0)] w w5 := K4.next hb5
  clear d0
  clear d1
  clear d2
  clear hb5
  have d0 := K5.head
  have d1 := K5.tail.head
  have d2 := K5.tail.tail.head
  have hl5_0 := K5.lt
  go_wp2_with fail
  go_ret
  exact ⟨rfl, K5.bel⟩

set_option maxHeartbeats 1000000 in
theorem asks_inf (l s t now : Int) (w : World) (h : mayZ l s t = true) (h1 : t ≤ now) (h2 : now ≤ 1099511627776) (h3 : l = 0) (h4 : 0 < s) :
    Calls Try.prog 8 #[.agg #[.int .i64 l, .int .i64 s, .int .i64 t], .int .i64 now] w fun e w' => e = .returned (.bool true) ∧ Below w.heap.size w w' := by
  subst h3
  have h5 : (s == 0) = false := beq_eq_false_iff_ne.2 (by omega)
  have s1 : sameB (useV 0 s) (useV 0 s) = true := sameB_yes rfl
  have s2 : sameB 9218868437227405312 9218868437227405312 = true := sameB_yes rfl
  go_enter Try.func8, Try.ntmps8
  go_wp2_with fail
  refine (use_yes _ _ _ _ h).mono ?_
  rintro e w1 ⟨rfl, hb1⟩
  have K1 : Kp [(w.heap.size, 2, Value.int .i64 t), (w.heap.size, 1, Value.int .i64 s), (w.heap.size, 0, Value.int .i64 0)] w w1 := (((((Kp.nil (w := w)).alloc _).add (b := w.heap.size) (o := 0) (v := Value.int .i64 0) (by (try go_simp); (try simp); (try omega)) (by go_simp)).add (b := w.heap.size) (o := 1) (v := Value.int .i64 s) (by (try go_simp); (try simp); (try omega)) (by go_simp)).add (b := w.heap.size) (o := 2) (v := Value.int .i64 t) (by (try go_simp); (try simp); (try omega)) (by go_simp)).next hb1
  clear hb1
  have d0 := K1.head
  have d1 := K1.tail.head
  have d2 := K1.tail.tail.head
  have hl1_0 := K1.lt
  go_wp2_with fail
  refine (ruse_yes _ _ _ _ h).mono ?_
  rintro e w2 ⟨rfl, hb2⟩
  have K2 : Kp [(w.heap.size, 2, Value.int .i64 t), (w.heap.size, 1, Value.int .i64 s), (w.heap.size, 0, Value.int .i64 0)] w w2 := K1.next hb2
  clear d0
  clear d1
  clear d2
  clear hb2
  have d0 := K2.head
  have d1 := K2.tail.head
  have d2 := K2.tail.tail.head
  have hl2_0 := K2.lt
  go_wp2_with fail
  refine (score_inf _ _ _ _ _ h h1 h2 rfl h4).mono ?_
  rintro e w3 ⟨rfl, hb3⟩
  have K3 : Kp [(w.heap.size, 2, Value.int .i64 t), (w.heap.size, 1, Value.int .i64 s), (w.heap.size, 0, Value.int .i64 0)] w w3 := K2.next hb3
  clear d0
  clear d1
  clear d2
  clear hb3
  have d0 := K3.head
  have d1 := K3.tail.head
  have d2 := K3.tail.tail.head
  have hl3_0 := K3.lt
  go_wp2_with fail
  refine (rscore_inf _ _ _ _ _ h h1 h2 rfl h5).mono ?_
  rintro e w4 ⟨rfl, hb4⟩
  have K4 : Kp [(w.heap.size, 2, Value.int .i64 t), (w.heap.size, 1, Value.int .i64 s), (w.heap.size, 0, Value.int .i64 0)] w w4 := K3.next hb4
  clear d0
  clear d1
  clear d2
  clear hb4
  have d0 := K4.head
  have d1 := K4.tail.head
  have d2 := K4.tail.tail.head
  have hl4_0 := K4.lt
  go_wp2_with fail
  refine (Fb.rsame_any _ _ _).mono ?_
  rintro e w' ⟨rfl, rfl⟩
  go_wp2_with fail
  refine (Fb.rsame_any _ _ _).mono ?_
  rintro e w' ⟨rfl, rfl⟩
  go_wp2_with fail
  refine (awake_any _).mono ?_
  rintro e w5 ⟨rfl, hb5⟩
  have K5 : Kp [(w.heap.size, 2, Value.int .i64 t), (w.heap.size, 1, Value.int .i64 s), (w.heap.size, 0, Value.int .i64 0)] w w5 := K4.next hb5
  clear d0
  clear d1
  clear d2
  clear hb5
  have d0 := K5.head
  have d1 := K5.tail.head
  have d2 := K5.tail.tail.head
  have hl5_0 := K5.lt
  go_wp2_with fail
  go_ret
  exact ⟨rfl, K5.bel⟩

set_option maxHeartbeats 1000000 in
theorem asks_num (l s t now : Int) (w : World) (h : mayZ l s t = true) (h1 : t ≤ now) (h2 : now ≤ 1099511627776) (h3 : 0 < l) :
    Calls Try.prog 8 #[.agg #[.int .i64 l, .int .i64 s, .int .i64 t], .int .i64 now] w fun e w' => e = .returned (.bool true) ∧ Below w.heap.size w w' := by
  obtain ⟨m1, m2, _, _, _⟩ := mayZ_yes h
  have h4 : (s == 0) = false := beq_eq_false_iff_ne.2 (by omega)
  have h5 : (l == 0) = false := beq_eq_false_iff_ne.2 (by omega)
  have s1 : sameB (useV l s) (useV l s) = true := sameB_yes rfl
  go_enter Try.func8, Try.ntmps8
  go_wp2_with fail
  refine (use_yes _ _ _ _ h).mono ?_
  rintro e w1 ⟨rfl, hb1⟩
  have K1 : Kp [(w.heap.size, 2, Value.int .i64 t), (w.heap.size, 1, Value.int .i64 s), (w.heap.size, 0, Value.int .i64 l)] w w1 := (((((Kp.nil (w := w)).alloc _).add (b := w.heap.size) (o := 0) (v := Value.int .i64 l) (by (try go_simp); (try simp); (try omega)) (by go_simp)).add (b := w.heap.size) (o := 1) (v := Value.int .i64 s) (by (try go_simp); (try simp); (try omega)) (by go_simp)).add (b := w.heap.size) (o := 2) (v := Value.int .i64 t) (by (try go_simp); (try simp); (try omega)) (by go_simp)).next hb1
  clear hb1
  have d0 := K1.head
  have d1 := K1.tail.head
  have d2 := K1.tail.tail.head
  have hl1_0 := K1.lt
  go_wp2_with fail
  refine (ruse_yes _ _ _ _ h).mono ?_
  rintro e w2 ⟨rfl, hb2⟩
  have K2 : Kp [(w.heap.size, 2, Value.int .i64 t), (w.heap.size, 1, Value.int .i64 s), (w.heap.size, 0, Value.int .i64 l)] w w2 := K1.next hb2
  clear d0
  clear d1
  clear d2
  clear hb2
  have d0 := K2.head
  have d1 := K2.tail.head
  have d2 := K2.tail.tail.head
  have hl2_0 := K2.lt
  go_wp2_with fail
  refine (score_num _ _ _ _ _ h h1 h2 (.inl h3)).mono ?_
  rintro e w3 ⟨rfl, hb3⟩
  have K3 : Kp [(w.heap.size, 2, Value.int .i64 t), (w.heap.size, 1, Value.int .i64 s), (w.heap.size, 0, Value.int .i64 l)] w w3 := K2.next hb3
  clear d0
  clear d1
  clear d2
  clear hb3
  have d0 := K3.head
  have d1 := K3.tail.head
  have d2 := K3.tail.tail.head
  have hl3_0 := K3.lt
  go_wp2_with fail
  refine (rscore_num _ _ _ _ _ h h1 h2 h4 h5).mono ?_
  rintro e w4 ⟨r, hr, hr2, rfl, hb4⟩
  have K4 : Kp [(w.heap.size, 2, Value.int .i64 t), (w.heap.size, 1, Value.int .i64 s), (w.heap.size, 0, Value.int .i64 l)] w w4 := K3.next hb4
  clear d0
  clear d1
  clear d2
  clear hb4
  have d0 := K4.head
  have d1 := K4.tail.head
  have d2 := K4.tail.tail.head
  have hl4_0 := K4.lt
  have s2 : sameB (scoreV (useV l s) (now - t)) r = true := sameB_yes (by rw [scoreV_cn, hr])
  clear hr hr2
  go_wp2_with fail
  refine (Fb.rsame_any _ _ _).mono ?_
  rintro e w' ⟨rfl, rfl⟩
  go_wp2_with fail
  refine (Fb.rsame_any _ _ _).mono ?_
  rintro e w' ⟨rfl, rfl⟩
  go_wp2_with fail
  refine (awake_any _).mono ?_
  rintro e w5 ⟨rfl, hb5⟩
  have K5 : Kp [(w.heap.size, 2, Value.int .i64 t), (w.heap.size, 1, Value.int .i64 s), (w.heap.size, 0, Value.int .i64 l)] w w5 := K4.next hb5
  clear d0
  clear d1
  clear d2
  clear hb5
  have d0 := K5.head
  have d1 := K5.tail.head
  have d2 := K5.tail.tail.head
  have hl5_0 := K5.lt
  go_wp2_with fail
  go_ret
  exact ⟨rfl, K5.bel⟩

theorem asks_walk (l s t now : Int) (w : World) (_h1 : (Lit.int .i64 l).wf = true) (_h2 : (Lit.int .i64 s).wf = true) (_h3 : (Lit.int .i64 t).wf = true) (_h4 : (Lit.int .i64 now).wf = true) :
    Calls Try.prog 8 #[.agg #[.int .i64 l, .int .i64 s, .int .i64 t], .int .i64 now] w fun e w' => e = .returned (.bool true) ∧ Below w.heap.size w w' := by
  cases h : mayZ l s t with
  | false => exact asks_bad l s t now w h
  | true =>
    obtain ⟨m1, m2, _, _, _⟩ := mayZ_yes h
    rcases Int.lt_or_le now t with h1 | h1
    · exact asks_old l s t now w h h1
    · rcases Int.lt_or_le 1099511627776 now with h2 | h2
      · exact asks_late l s t now w h h1 h2
      · by_cases h3 : s = 0
        · exact asks_nan l s t now w h h1 h2 h3
        · by_cases h4 : l = 0
          · exact asks_inf l s t now w h h1 h2 h4 (by omega)
          · exact asks_num l s t now w h h1 h2 (by omega)
end Go.Proofs.Ytjoagpjockfpiaa.Sc
