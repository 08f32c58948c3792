/- Contracts of the packages score and scarpref1 (may, Use, Score, clean) and of scarplaw5.awake: what each returns, for every zone; nothing that was there is written. -/
import Derived.Test.YtchhnjadnacniaaFbA
import Derived.Test.YtchhnjadnacniaaFlF
import Derived.Handy
namespace Go.Proofs.Ytchhnjadnacniaa.Sc
set_option linter.unusedSimpArgs false
open Go.RowKit Fl

def mayZ (l s t : Int) : Bool := decide (0 ≤ l ∧ l ≤ s ∧ s ≤ 1073741824 ∧ 0 ≤ t ∧ t ≤ 1099511627776)
theorem mayZ_yes {l s t : Int} (h : mayZ l s t = true) : 0 ≤ l ∧ l ≤ s ∧ s ≤ 1073741824 ∧ 0 ≤ t ∧ t ≤ 1099511627776 := by simpa [mayZ] using h
theorem mayZ_mk {l s t : Int} (h : 0 ≤ l ∧ l ≤ s ∧ s ≤ 1073741824 ∧ 0 ≤ t ∧ t ≤ 1099511627776) : mayZ l s t = true := by simpa [mayZ] using h
theorem may_cases (l s t : Int) : (l < 0 ∧ decide (0 ≤ l) = false) ∨ (0 ≤ l ∧ s < l ∧ decide (l ≤ s) = false) ∨ (0 ≤ l ∧ l ≤ s ∧ 1073741824 < s ∧ decide (s ≤ 1073741824) = false) ∨ (0 ≤ l ∧ l ≤ s ∧ s ≤ 1073741824 ∧ t < 0 ∧ decide (0 ≤ t) = false) ∨
    (0 ≤ l ∧ l ≤ s ∧ s ≤ 1073741824 ∧ 0 ≤ t ∧ 1099511627776 < t ∧ decide (t ≤ 1099511627776) = false) ∨ (0 ≤ l ∧ l ≤ s ∧ s ≤ 1073741824 ∧ 0 ≤ t ∧ t ≤ 1099511627776 ∧ decide (t ≤ 1099511627776) = true) := by
  simp only [decide_eq_false_iff_not, decide_eq_true_eq]; omega

theorem may_any (l s t : Int) (w : World) :
    Calls Try.prog 66 #[.agg #[.int .i64 l, .int .i64 s, .int .i64 t]] w fun e w' => e = .returned (.bool (mayZ l s t)) ∧ Below w.heap.size w w' := by
  rcases may_cases l s t with ⟨h1, h2⟩ | ⟨h1, h2, h3⟩ | ⟨h1, h2, h3, h4⟩ | ⟨h1, h2, h3, h4, h5⟩ | ⟨h1, h2, h3, h4, h5, h6⟩ | ⟨h1, h2, h3, h4, h5, h6⟩
  all_goals
    go_enter Try.func66, Try.ntmps66
    go_wp2
    go_ret
    exact ⟨ret_bool (by unfold mayZ; symm; simp only [decide_eq_true_eq, decide_eq_false_iff_not]; omega), (Below.refl _ _).alloc (Nat.le_refl _) _⟩

theorem rmay_any (l s t : Int) (w : World) :
    Calls Try.prog 78 #[.agg #[.int .i64 l, .int .i64 s, .int .i64 t]] w fun e w' => e = .returned (.bool (mayZ l s t)) ∧ Below w.heap.size w w' := by
  rcases may_cases l s t with ⟨h1, h2⟩ | ⟨h1, h2, h3⟩ | ⟨h1, h2, h3, h4⟩ | ⟨h1, h2, h3, h4, h5⟩ | ⟨h1, h2, h3, h4, h5, h6⟩ | ⟨h1, h2, h3, h4, h5, h6⟩
  all_goals
    go_enter Try.func78, Try.ntmps78
    go_wp2
    go_ret
    exact ⟨ret_bool (by unfold mayZ; symm; simp only [decide_eq_true_eq, decide_eq_false_iff_not]; omega), (Below.refl _ _).alloc (Nat.le_refl _) _⟩

theorem clean_any (x : Nat) (w : World) :
    Calls Try.prog 79 #[.float .f64 x] w fun e w' => e = .returned (.float .f64 (cn x)) ∧ w = w' := by
  by_cases h : 9218868437227405312 < rg x
  · have h1 := t_ne_nan h
    go_enter Try.func79, Try.ntmps79
    go_wp2_with (go_at_call 59; refine (Fb.rfrom_any 9221120237041090560 _ (by omega)).mono ?_; rintro e w' ⟨rfl, rfl⟩)
    go_ret
    exact ⟨by rw [cn_nan h]; rfl, rfl⟩
  · have h1 := t_ne_num (Nat.le_of_not_lt h)
    go_enter Try.func79, Try.ntmps79
    go_wp2
    go_ret
    exact ⟨by rw [cn_num (Nat.le_of_not_lt h)]; rfl, rfl⟩

set_option maxHeartbeats 400000 in
theorem use_no (l s t : Int) (w : World) (h : mayZ l s t = false) :
    Calls Try.prog 39 #[.agg #[.int .i64 l, .int .i64 s, .int .i64 t]] w fun e w' => e = .returned (.tuple #[.float .f64 0, .int .i64 1]) ∧ Below w.heap.size w w' := by
  go_enter Try.func39, Try.ntmps39
  go_wp2_with fail
  refine (may_any _ _ _ _).mono ?_
  rintro e w1 ⟨rfl, hb1⟩
  have K1 : Kp [(w.heap.size, 2, Value.int .i64 t), (w.heap.size, 1, Value.int .i64 s), (w.heap.size, 0, Value.int .i64 l)] w w1 := (((((Kp.nil (w := w)).alloc _).add (b := w.heap.size) (o := 0) (v := Value.int .i64 l) (by (try go_simp); (try simp); (try omega)) (by go_simp)).add (b := w.heap.size) (o := 1) (v := Value.int .i64 s) (by (try go_simp); (try simp); (try omega)) (by go_simp)).add (b := w.heap.size) (o := 2) (v := Value.int .i64 t) (by (try go_simp); (try simp); (try omega)) (by go_simp)).next hb1
  clear hb1
  have d0 := K1.head
  have d1 := K1.tail.head
  have d2 := K1.tail.tail.head
  have hl1_0 := K1.lt
  go_wp2_with fail
  go_ret2
  exact ⟨rfl, K1.bel⟩

set_option maxHeartbeats 400000 in
theorem use_yes (l s t : Int) (w : World) (h : mayZ l s t = true) :
    Calls Try.prog 39 #[.agg #[.int .i64 l, .int .i64 s, .int .i64 t]] w fun e w' => e = .returned (.tuple #[.float .f64 (useV l s), .int .i64 0]) ∧ Below w.heap.size w w' := by
  go_enter Try.func39, Try.ntmps39
  go_wp2_with fail
  refine (may_any _ _ _ _).mono ?_
  rintro e w1 ⟨rfl, hb1⟩
  have K1 : Kp [(w.heap.size, 2, Value.int .i64 t), (w.heap.size, 1, Value.int .i64 s), (w.heap.size, 0, Value.int .i64 l)] w w1 := (((((Kp.nil (w := w)).alloc _).add (b := w.heap.size) (o := 0) (v := Value.int .i64 l) (by (try go_simp); (try simp); (try omega)) (by go_simp)).add (b := w.heap.size) (o := 1) (v := Value.int .i64 s) (by (try go_simp); (try simp); (try omega)) (by go_simp)).add (b := w.heap.size) (o := 2) (v := Value.int .i64 t) (by (try go_simp); (try simp); (try omega)) (by go_simp)).next hb1
  clear hb1
  have d0 := K1.head
  have d1 := K1.tail.head
  have d2 := K1.tail.tail.head
  have hl1_0 := K1.lt
  go_wp2_with (first | (go_at_call 42; refine (Fb.bits_any _ _).mono ?_; rintro e w' ⟨rfl, rfl⟩) | (go_at_call 41; refine (Fb.from_any _ _).mono ?_; rintro e w' ⟨rfl, rfl⟩))
  go_ret2
  exact ⟨by rw [← useV_of l s]; (try simp only [cn_cn]); rfl, K1.bel.trans ⟨rfl, rfl, rfl, Nat.le_refl _, fun _ _ => rfl⟩⟩

set_option maxHeartbeats 400000 in
theorem ruse_no (l s t : Int) (w : World) (h : mayZ l s t = false) :
    Calls Try.prog 58 #[.agg #[.int .i64 l, .int .i64 s, .int .i64 t]] w fun e w' => e = .returned (.tuple #[.float .f64 0, .int .i64 1]) ∧ Below w.heap.size w w' := by
  go_enter Try.func58, Try.ntmps58
  go_wp2_with fail
  refine (rmay_any _ _ _ _).mono ?_
  rintro e w1 ⟨rfl, hb1⟩
  have K1 : Kp [(w.heap.size, 2, Value.int .i64 t), (w.heap.size, 1, Value.int .i64 s), (w.heap.size, 0, Value.int .i64 l)] w w1 := (((((Kp.nil (w := w)).alloc _).add (b := w.heap.size) (o := 0) (v := Value.int .i64 l) (by (try go_simp); (try simp); (try omega)) (by go_simp)).add (b := w.heap.size) (o := 1) (v := Value.int .i64 s) (by (try go_simp); (try simp); (try omega)) (by go_simp)).add (b := w.heap.size) (o := 2) (v := Value.int .i64 t) (by (try go_simp); (try simp); (try omega)) (by go_simp)).next hb1
  clear hb1
  have d0 := K1.head
  have d1 := K1.tail.head
  have d2 := K1.tail.tail.head
  have hl1_0 := K1.lt
  go_wp2_with fail
  go_ret2
  exact ⟨rfl, K1.bel⟩

set_option maxHeartbeats 400000 in
theorem ruse_yes (l s t : Int) (w : World) (h : mayZ l s t = true) :
    Calls Try.prog 58 #[.agg #[.int .i64 l, .int .i64 s, .int .i64 t]] w fun e w' => e = .returned (.tuple #[.float .f64 (useV l s), .int .i64 0]) ∧ Below w.heap.size w w' := by
  go_enter Try.func58, Try.ntmps58
  go_wp2_with fail
  refine (rmay_any _ _ _ _).mono ?_
  rintro e w1 ⟨rfl, hb1⟩
  have K1 : Kp [(w.heap.size, 2, Value.int .i64 t), (w.heap.size, 1, Value.int .i64 s), (w.heap.size, 0, Value.int .i64 l)] w w1 := (((((Kp.nil (w := w)).alloc _).add (b := w.heap.size) (o := 0) (v := Value.int .i64 l) (by (try go_simp); (try simp); (try omega)) (by go_simp)).add (b := w.heap.size) (o := 1) (v := Value.int .i64 s) (by (try go_simp); (try simp); (try omega)) (by go_simp)).add (b := w.heap.size) (o := 2) (v := Value.int .i64 t) (by (try go_simp); (try simp); (try omega)) (by go_simp)).next hb1
  clear hb1
  have d0 := K1.head
  have d1 := K1.tail.head
  have d2 := K1.tail.tail.head
  have hl1_0 := K1.lt
  go_wp2_with (go_at_call 79; refine (clean_any _ _).mono ?_; rintro e w' ⟨rfl, rfl⟩)
  go_ret2
  exact ⟨by rw [← useV_of l s]; (try simp only [cn_cn]); rfl, K1.bel.trans ⟨rfl, rfl, rfl, Nat.le_refl _, fun _ _ => rfl⟩⟩

set_option maxHeartbeats 400000 in
theorem score_bad (l s t now : Int) (w : World) (h : mayZ l s t = false) :
    Calls Try.prog 14 #[.agg #[.int .i64 l, .int .i64 s, .int .i64 t], .int .i64 now] w fun e w' => e = .returned (.tuple #[.float .f64 0, .int .i64 1]) ∧ Below w.heap.size w w' := by
  go_enter Try.func14, Try.ntmps14
  go_wp2_with fail
  refine (use_no _ _ _ _ h).mono ?_
  rintro e w1 ⟨rfl, hb1⟩
  have K1 : Kp [(w.heap.size, 2, Value.int .i64 t), (w.heap.size, 1, Value.int .i64 s), (w.heap.size, 0, Value.int .i64 l)] w w1 := (((((Kp.nil (w := w)).alloc _).add (b := w.heap.size) (o := 0) (v := Value.int .i64 l) (by (try go_simp); (try simp); (try omega)) (by go_simp)).add (b := w.heap.size) (o := 1) (v := Value.int .i64 s) (by (try go_simp); (try simp); (try omega)) (by go_simp)).add (b := w.heap.size) (o := 2) (v := Value.int .i64 t) (by (try go_simp); (try simp); (try omega)) (by go_simp)).next hb1
  clear hb1
  have d0 := K1.head
  have d1 := K1.tail.head
  have d2 := K1.tail.tail.head
  have hl1_0 := K1.lt
  go_wp2_with fail
  go_ret2
  exact ⟨rfl, K1.bel⟩

set_option maxHeartbeats 400000 in
theorem score_old (l s t now : Int) (w : World) (h : mayZ l s t = true) (h1 : now < t) :
    Calls Try.prog 14 #[.agg #[.int .i64 l, .int .i64 s, .int .i64 t], .int .i64 now] w fun e w' => e = .returned (.tuple #[.float .f64 0, .int .i64 1]) ∧ Below w.heap.size w w' := by
  go_enter Try.func14, Try.ntmps14
  go_wp2_with fail
  refine (use_yes _ _ _ _ h).mono ?_
  rintro e w1 ⟨rfl, hb1⟩
  have K1 : Kp [(w.heap.size, 2, Value.int .i64 t), (w.heap.size, 1, Value.int .i64 s), (w.heap.size, 0, Value.int .i64 l)] w w1 := (((((Kp.nil (w := w)).alloc _).add (b := w.heap.size) (o := 0) (v := Value.int .i64 l) (by (try go_simp); (try simp); (try omega)) (by go_simp)).add (b := w.heap.size) (o := 1) (v := Value.int .i64 s) (by (try go_simp); (try simp); (try omega)) (by go_simp)).add (b := w.heap.size) (o := 2) (v := Value.int .i64 t) (by (try go_simp); (try simp); (try omega)) (by go_simp)).next hb1
  clear hb1
  have d0 := K1.head
  have d1 := K1.tail.head
  have d2 := K1.tail.tail.head
  have hl1_0 := K1.lt
  go_wp2_with fail
  go_ret2
  exact ⟨rfl, K1.bel⟩

set_option maxHeartbeats 400000 in
theorem score_late (l s t now : Int) (w : World) (h : mayZ l s t = true) (h1 : t ≤ now) (h2 : 1099511627776 < now) :
    Calls Try.prog 14 #[.agg #[.int .i64 l, .int .i64 s, .int .i64 t], .int .i64 now] w fun e w' => e = .returned (.tuple #[.float .f64 0, .int .i64 1]) ∧ Below w.heap.size w w' := by
  go_enter Try.func14, Try.ntmps14
  go_wp2_with fail
  refine (use_yes _ _ _ _ h).mono ?_
  rintro e w1 ⟨rfl, hb1⟩
  have K1 : Kp [(w.heap.size, 2, Value.int .i64 t), (w.heap.size, 1, Value.int .i64 s), (w.heap.size, 0, Value.int .i64 l)] w w1 := (((((Kp.nil (w := w)).alloc _).add (b := w.heap.size) (o := 0) (v := Value.int .i64 l) (by (try go_simp); (try simp); (try omega)) (by go_simp)).add (b := w.heap.size) (o := 1) (v := Value.int .i64 s) (by (try go_simp); (try simp); (try omega)) (by go_simp)).add (b := w.heap.size) (o := 2) (v := Value.int .i64 t) (by (try go_simp); (try simp); (try omega)) (by go_simp)).next hb1
  clear hb1
  have d0 := K1.head
  have d1 := K1.tail.head
  have d2 := K1.tail.tail.head
  have hl1_0 := K1.lt
  go_wp2_with fail
  go_ret2
  exact ⟨rfl, K1.bel⟩

set_option maxHeartbeats 400000 in
theorem score_inf (l s t now : Int) (w : World) (h : mayZ l s t = true) (h1 : t ≤ now) (h2 : now ≤ 1099511627776) (h3 : l = 0) (h4 : 0 < s) :
    Calls Try.prog 14 #[.agg #[.int .i64 l, .int .i64 s, .int .i64 t], .int .i64 now] w fun e w' => e = .returned (.tuple #[.float .f64 9218868437227405312, .int .i64 0]) ∧ Below w.heap.size w w' := by
  subst h3
  obtain ⟨_, _, m3, _, _⟩ := mayZ_yes h
  have hu : useV 0 s = 0 := by
    obtain ⟨n, rfl⟩ := Int.eq_ofNat_of_zero_le (Int.le_of_lt h4)
    exact useV_zero (by omega) (by omega)
  have ht : (FloatKind.f64.format.order (useV 0 s) 0 == some .eq) = true := by rw [hu]; decide +kernel
  clear hu
  go_enter Try.func14, Try.ntmps14
  go_wp2_with fail
  refine (use_yes _ _ _ _ h).mono ?_
  rintro e w1 ⟨rfl, hb1⟩
  have K1 : Kp [(w.heap.size, 2, Value.int .i64 t), (w.heap.size, 1, Value.int .i64 s), (w.heap.size, 0, Value.int .i64 0)] w w1 := (((((Kp.nil (w := w)).alloc _).add (b := w.heap.size) (o := 0) (v := Value.int .i64 0) (by (try go_simp); (try simp); (try omega)) (by go_simp)).add (b := w.heap.size) (o := 1) (v := Value.int .i64 s) (by (try go_simp); (try simp); (try omega)) (by go_simp)).add (b := w.heap.size) (o := 2) (v := Value.int .i64 t) (by (try go_simp); (try simp); (try omega)) (by go_simp)).next hb1
  clear hb1
  have d0 := K1.head
  have d1 := K1.tail.head
  have d2 := K1.tail.tail.head
  have hl1_0 := K1.lt
  go_wp2
  go_ret2
  exact ⟨rfl, K1.bel⟩

theorem use_ne {l s t : Int} (h : mayZ l s t = true) (h3 : 0 < l ∨ s = 0) : (FloatKind.f64.format.order (useV l s) 0 == some .eq) = false := by
  obtain ⟨m1, m2, m3, _, _⟩ := mayZ_yes h
  rcases h3 with h3 | h3
  · obtain ⟨n, rfl⟩ := Int.eq_ofNat_of_zero_le m1
    obtain ⟨k, rfl⟩ := Int.eq_ofNat_of_zero_le (show 0 ≤ s by omega)
    have hp := useV_pos (l := n) (s := k) (by omega) (by omega) (by omega) (by omega)
    have hl := useV_le_one (l := n) (s := k) (by omega) (by omega) (by omega)
    rw [p_eq (by omega) (by omega)]
    exact decide_eq_false (by omega)
  · obtain rfl : l = 0 := by omega
    subst h3
    rw [useV_nan]
    decide +kernel
set_option maxHeartbeats 400000 in
theorem score_num (l s t now : Int) (w : World) (h : mayZ l s t = true) (h1 : t ≤ now) (h2 : now ≤ 1099511627776) (h3 : 0 < l ∨ s = 0) :
    Calls Try.prog 14 #[.agg #[.int .i64 l, .int .i64 s, .int .i64 t], .int .i64 now] w fun e w' => e = .returned (.tuple #[.float .f64 (scoreV (useV l s) (now - t)), .int .i64 0]) ∧ Below w.heap.size w w' := by
  have ht := use_ne h h3
  clear h3
  obtain ⟨_, _, _, m4, m5⟩ := mayZ_yes h
  go_enter Try.func14, Try.ntmps14
  go_wp2_with fail
  refine (use_yes _ _ _ _ h).mono ?_
  rintro e w1 ⟨rfl, hb1⟩
  have K1 : Kp [(w.heap.size, 2, Value.int .i64 t), (w.heap.size, 1, Value.int .i64 s), (w.heap.size, 0, Value.int .i64 l)] w w1 := (((((Kp.nil (w := w)).alloc _).add (b := w.heap.size) (o := 0) (v := Value.int .i64 l) (by (try go_simp); (try simp); (try omega)) (by go_simp)).add (b := w.heap.size) (o := 1) (v := Value.int .i64 s) (by (try go_simp); (try simp); (try omega)) (by go_simp)).add (b := w.heap.size) (o := 2) (v := Value.int .i64 t) (by (try go_simp); (try simp); (try omega)) (by go_simp)).next hb1
  clear hb1
  have d0 := K1.head
  have d1 := K1.tail.head
  have d2 := K1.tail.tail.head
  have hl1_0 := K1.lt
  go_wp2_with (first | (go_at_call 42; refine (Fb.bits_any _ _).mono ?_; rintro e w' ⟨rfl, rfl⟩) | (go_at_call 41; refine (Fb.from_any _ _).mono ?_; rintro e w' ⟨rfl, rfl⟩))
  go_ret2
  exact ⟨by rw [← scoreV_of (useV l s) (now - t)]; simp only [cn_cn]; rfl, K1.bel.trans ⟨rfl, rfl, rfl, Nat.le_refl _, fun _ _ => rfl⟩⟩

set_option maxHeartbeats 400000 in
theorem rscore_bad (l s t now : Int) (w : World) (h : mayZ l s t = false) :
    Calls Try.prog 26 #[.agg #[.int .i64 l, .int .i64 s, .int .i64 t], .int .i64 now] w fun e w' => e = .returned (.tuple #[.float .f64 0, .int .i64 1]) ∧ Below w.heap.size w w' := by
  go_enter Try.func26, Try.ntmps26
  go_wp2_with fail
  refine (ruse_no _ _ _ _ h).mono ?_
  rintro e w1 ⟨rfl, hb1⟩
  have K1 : Kp [(w.heap.size, 2, Value.int .i64 t), (w.heap.size, 1, Value.int .i64 s), (w.heap.size, 0, Value.int .i64 l)] w w1 := (((((Kp.nil (w := w)).alloc _).add (b := w.heap.size) (o := 0) (v := Value.int .i64 l) (by (try go_simp); (try simp); (try omega)) (by go_simp)).add (b := w.heap.size) (o := 1) (v := Value.int .i64 s) (by (try go_simp); (try simp); (try omega)) (by go_simp)).add (b := w.heap.size) (o := 2) (v := Value.int .i64 t) (by (try go_simp); (try simp); (try omega)) (by go_simp)).next hb1
  clear hb1
  have d0 := K1.head
  have d1 := K1.tail.head
  have d2 := K1.tail.tail.head
  have hl1_0 := K1.lt
  go_wp2_with fail
  go_ret2
  exact ⟨rfl, K1.bel⟩

set_option maxHeartbeats 400000 in
theorem rscore_old (l s t now : Int) (w : World) (h : mayZ l s t = true) (h1 : now < t) :
    Calls Try.prog 26 #[.agg #[.int .i64 l, .int .i64 s, .int .i64 t], .int .i64 now] w fun e w' => e = .returned (.tuple #[.float .f64 0, .int .i64 1]) ∧ Below w.heap.size w w' := by
  go_enter Try.func26, Try.ntmps26
  go_wp2_with fail
  refine (ruse_yes _ _ _ _ h).mono ?_
  rintro e w1 ⟨rfl, hb1⟩
  have K1 : Kp [(w.heap.size, 2, Value.int .i64 t), (w.heap.size, 1, Value.int .i64 s), (w.heap.size, 0, Value.int .i64 l)] w w1 := (((((Kp.nil (w := w)).alloc _).add (b := w.heap.size) (o := 0) (v := Value.int .i64 l) (by (try go_simp); (try simp); (try omega)) (by go_simp)).add (b := w.heap.size) (o := 1) (v := Value.int .i64 s) (by (try go_simp); (try simp); (try omega)) (by go_simp)).add (b := w.heap.size) (o := 2) (v := Value.int .i64 t) (by (try go_simp); (try simp); (try omega)) (by go_simp)).next hb1
  clear hb1
  have d0 := K1.head
  have d1 := K1.tail.head
  have d2 := K1.tail.tail.head
  have hl1_0 := K1.lt
  go_wp2_with fail
  go_ret2
  exact ⟨rfl, K1.bel⟩

set_option maxHeartbeats 400000 in
theorem rscore_late (l s t now : Int) (w : World) (h : mayZ l s t = true) (h1 : t ≤ now) (h2 : 1099511627776 < now) :
    Calls Try.prog 26 #[.agg #[.int .i64 l, .int .i64 s, .int .i64 t], .int .i64 now] w fun e w' => e = .returned (.tuple #[.float .f64 0, .int .i64 1]) ∧ Below w.heap.size w w' := by
  go_enter Try.func26, Try.ntmps26
  go_wp2_with fail
  refine (ruse_yes _ _ _ _ h).mono ?_
  rintro e w1 ⟨rfl, hb1⟩
  have K1 : Kp [(w.heap.size, 2, Value.int .i64 t), (w.heap.size, 1, Value.int .i64 s), (w.heap.size, 0, Value.int .i64 l)] w w1 := (((((Kp.nil (w := w)).alloc _).add (b := w.heap.size) (o := 0) (v := Value.int .i64 l) (by (try go_simp); (try simp); (try omega)) (by go_simp)).add (b := w.heap.size) (o := 1) (v := Value.int .i64 s) (by (try go_simp); (try simp); (try omega)) (by go_simp)).add (b := w.heap.size) (o := 2) (v := Value.int .i64 t) (by (try go_simp); (try simp); (try omega)) (by go_simp)).next hb1
  clear hb1
  have d0 := K1.head
  have d1 := K1.tail.head
  have d2 := K1.tail.tail.head
  have hl1_0 := K1.lt
  go_wp2_with fail
  go_ret2
  exact ⟨rfl, K1.bel⟩

set_option maxHeartbeats 400000 in
theorem rscore_nan (l s t now : Int) (w : World) (h : mayZ l s t = true) (h1 : t ≤ now) (h2 : now ≤ 1099511627776) (h3 : s = 0) :
    Calls Try.prog 26 #[.agg #[.int .i64 l, .int .i64 s, .int .i64 t], .int .i64 now] w fun e w' => e = .returned (.tuple #[.float .f64 9221120237041090560, .int .i64 0]) ∧ Below w.heap.size w w' := by
  subst h3
  go_enter Try.func26, Try.ntmps26
  go_wp2_with fail
  refine (ruse_yes _ _ _ _ h).mono ?_
  rintro e w1 ⟨rfl, hb1⟩
  have K1 : Kp [(w.heap.size, 2, Value.int .i64 t), (w.heap.size, 1, Value.int .i64 0), (w.heap.size, 0, Value.int .i64 l)] w w1 := (((((Kp.nil (w := w)).alloc _).add (b := w.heap.size) (o := 0) (v := Value.int .i64 l) (by (try go_simp); (try simp); (try omega)) (by go_simp)).add (b := w.heap.size) (o := 1) (v := Value.int .i64 0) (by (try go_simp); (try simp); (try omega)) (by go_simp)).add (b := w.heap.size) (o := 2) (v := Value.int .i64 t) (by (try go_simp); (try simp); (try omega)) (by go_simp)).next hb1
  clear hb1
  have d0 := K1.head
  have d1 := K1.tail.head
  have d2 := K1.tail.tail.head
  have hl1_0 := K1.lt
  go_wp2_with (go_at_call 59; refine (Fb.rfrom_any 9221120237041090560 _ (by omega)).mono ?_; rintro e w' ⟨rfl, rfl⟩)
  go_ret2
  exact ⟨rfl, K1.bel⟩

set_option maxHeartbeats 400000 in
theorem rscore_inf (l s t now : Int) (w : World) (h : mayZ l s t = true) (h1 : t ≤ now) (h2 : now ≤ 1099511627776) (h3 : l = 0) (h4 : (s == 0) = false) :
    Calls Try.prog 26 #[.agg #[.int .i64 l, .int .i64 s, .int .i64 t], .int .i64 now] w fun e w' => e = .returned (.tuple #[.float .f64 9218868437227405312, .int .i64 0]) ∧ Below w.heap.size w w' := by
  subst h3
  go_enter Try.func26, Try.ntmps26
  go_wp2_with fail
  refine (ruse_yes _ _ _ _ h).mono ?_
  rintro e w1 ⟨rfl, hb1⟩
  have K1 : Kp [(w.heap.size, 2, Value.int .i64 t), (w.heap.size, 1, Value.int .i64 s), (w.heap.size, 0, Value.int .i64 0)] w w1 := (((((Kp.nil (w := w)).alloc _).add (b := w.heap.size) (o := 0) (v := Value.int .i64 0) (by (try go_simp); (try simp); (try omega)) (by go_simp)).add (b := w.heap.size) (o := 1) (v := Value.int .i64 s) (by (try go_simp); (try simp); (try omega)) (by go_simp)).add (b := w.heap.size) (o := 2) (v := Value.int .i64 t) (by (try go_simp); (try simp); (try omega)) (by go_simp)).next hb1
  clear hb1
  have d0 := K1.head
  have d1 := K1.tail.head
  have d2 := K1.tail.tail.head
  have hl1_0 := K1.lt
  go_wp2_with (go_at_call 59; refine (Fb.rfrom_any 9218868437227405312 _ (by omega)).mono ?_; rintro e w' ⟨rfl, rfl⟩)
  go_ret2
  exact ⟨rfl, K1.bel⟩

/-- a score whose word is told but for which NaN it is. -/
def Told (c : Nat) (w : World) (e : Ending) (w' : World) : Prop := ∃ r, cn r = c ∧ r < 18446744073709551616 ∧ e = .returned (.tuple #[.float .f64 r, .int .i64 0]) ∧ Below w.heap.size w w'
set_option maxHeartbeats 400000 in
theorem rscore_num (l s t now : Int) (w : World) (h : mayZ l s t = true) (h1 : t ≤ now) (h2 : now ≤ 1099511627776) (h3 : (s == 0) = false) (h4 : (l == 0) = false) :
    Calls Try.prog 26 #[.agg #[.int .i64 l, .int .i64 s, .int .i64 t], .int .i64 now] w (Told (scoreV (useV l s) (now - t)) w) := by
  obtain ⟨_, _, _, m4, m5⟩ := mayZ_yes h
  go_enter Try.func26, Try.ntmps26
  go_wp2_with fail
  refine (ruse_yes _ _ _ _ h).mono ?_
  rintro e w1 ⟨rfl, hb1⟩
  have K1 : Kp [(w.heap.size, 2, Value.int .i64 t), (w.heap.size, 1, Value.int .i64 s), (w.heap.size, 0, Value.int .i64 l)] w w1 := (((((Kp.nil (w := w)).alloc _).add (b := w.heap.size) (o := 0) (v := Value.int .i64 l) (by (try go_simp); (try simp); (try omega)) (by go_simp)).add (b := w.heap.size) (o := 1) (v := Value.int .i64 s) (by (try go_simp); (try simp); (try omega)) (by go_simp)).add (b := w.heap.size) (o := 2) (v := Value.int .i64 t) (by (try go_simp); (try simp); (try omega)) (by go_simp)).next hb1
  clear hb1
  have d0 := K1.head
  have d1 := K1.tail.head
  have d2 := K1.tail.tail.head
  have hl1_0 := K1.lt
  go_wp2_with fail
  go_ret2
  exact ⟨_, scoreV_of (useV l s) (now - t) _ _ _ _, fR_lt _ _ _ _, rfl, K1.bel.trans ⟨rfl, rfl, rfl, Nat.le_refl _, fun _ _ => rfl⟩⟩

theorem awake_any (w : World) :
    Calls Try.prog 12 #[] w fun e w' => e = .returned (.bool true) ∧ Below w.heap.size w w' := by
  have ht : (FloatKind.f64.format.order (scoreV (useV 1 4) (10 - 0)) 4618441417868443648 == some .eq) = true := by unfold scoreV useV; decide +kernel
  have ht' : (FloatKind.f64.format.order (scoreV (useV 1 4) 10) 4618441417868443648 == some .eq) = true := ht
  clear ht
  go_enter Try.func12, Try.ntmps12
  go_wp2_with fail
  refine (score_num 1 4 0 10 _ (by decide) (by omega) (by omega) (by omega)).mono ?_
  rintro e w1 ⟨rfl, hb⟩
  simp only [Int.sub_zero]
  go_wp2_with fail
  go_ret
  exact ⟨rfl, hb⟩
end Go.Proofs.Ytchhnjadnacniaa.Sc
