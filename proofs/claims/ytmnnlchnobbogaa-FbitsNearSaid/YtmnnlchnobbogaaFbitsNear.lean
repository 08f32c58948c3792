/- FbitsNear: the walk. For every 64 bits the law returns true, and nothing that was there is written. No condition. -/
import Derived.Test.YtmnnlchnobbogaaFbL
import Derived.Test.YtmnnlchnobbogaaFbitsClass
import Derived.Test.YtmnnlchnobbogaaFlN
namespace Go.Proofs.Ytmnnlchnobbogaa.Fb
set_option linter.unusedSimpArgs false
set_option linter.unusedVariables false
open Go.RowKit Fl
attribute [local go_sem] and_sgn andNot_sgn xor_sgn xor_all run_neg_float u64_unsigned

set_option maxRecDepth 100000 in
set_option maxHeartbeats 1000000 in
theorem near_nan (v : Nat) (w : World) (hv : lt64 v) (h : 9218868437227405312 < rg v) :
    Calls Try.prog 6 #[.int .u64 v] w fun e w' => e = .returned (.bool true) ∧ Below w.heap.size w w' := by
  have hL := lt64_cn hv
  have h2 := (cn_isnan v).2 h
  have HN := next_nan (cn v) w hL h2
  have HP : Calls Try.prog 18 #[.float .f64 (cn v)] w fun e w' => e = .returned (.float .f64 9221120237041090560) ∧ w = w' := (prev_any (cn v) w hL).mono fun _ _ ⟨he, hw⟩ => ⟨by rw [he, Fl.prev_nan h2], hw⟩
  have HC := class_nan (cn v) w hL h2
  have t1 : (FloatKind.f64.format.order 9221120237041090560 9221120237041090560 != some .eq) = true := t_ne_nan (by decide)
  clear h h2
  go_enter Try.func6, Try.ntmps6
  go_wp2_with fail
  refine (from_any _ _).mono ?_
  rintro e w' ⟨rfl, rfl⟩
  go_wp2_with fail
  refine (HN).mono ?_
  rintro e w' ⟨rfl, rfl⟩
  go_wp2_with fail
  refine (HP).mono ?_
  rintro e w' ⟨rfl, rfl⟩
  go_wp2_with fail
  refine (HC).mono ?_
  rintro e w' ⟨rfl, rfl⟩
  go_wp2_with fail
  refine (awake_any _).mono ?_
  rintro e w' ⟨rfl, rfl⟩
  go_wp2_with fail
  go_ret
  exact ⟨rfl, ⟨rfl, rfl, rfl, Nat.le_refl _, fun _ _ => rfl⟩⟩
set_option maxRecDepth 100000 in
set_option maxHeartbeats 1000000 in
theorem near_zero_false (v : Nat) (w : World) (hv : lt64 v) (h : rg v = 0) (hs : ng v = false) :
    Calls Try.prog 6 #[.int .u64 v] w fun e w' => e = .returned (.bool true) ∧ Below w.heap.size w w' := by
  have HF := from_num v w (by omega)
  have HN := next_zero_false v w hv h hs
  have HP : Calls Try.prog 18 #[.float .f64 v] w fun e w' => e = .returned (.float .f64 9223372036854775809) ∧ w = w' := (prev_any v w hv).mono fun _ _ ⟨he, hw⟩ => ⟨by rw [he, Fl.prev_zero h], hw⟩
  have HC := class_zero_false v w hv h hs
  have b1 : Calls Try.prog 14 #[.float .f64 1] w fun e w' => e = .returned (.int .u64 1) ∧ w = w' := bits_num 1 w (by decide)
  have b2 : Calls Try.prog 14 #[.float .f64 9223372036854775809] w fun e w' => e = .returned (.int .u64 9223372036854775809) ∧ w = w' := bits_num 9223372036854775809 w (by decide)
  clear h hs
  go_enter Try.func6, Try.ntmps6
  go_wp2_with fail
  refine (HF).mono ?_
  rintro e w' ⟨rfl, rfl⟩
  go_wp2_with fail
  refine (HN).mono ?_
  rintro e w' ⟨rfl, rfl⟩
  go_wp2_with fail
  refine (HP).mono ?_
  rintro e w' ⟨rfl, rfl⟩
  go_wp2_with fail
  refine (HC).mono ?_
  rintro e w' ⟨rfl, rfl⟩
  go_wp2_with fail
  refine (b1).mono ?_
  rintro e w' ⟨rfl, rfl⟩
  go_wp2_with fail
  refine (b2).mono ?_
  rintro e w' ⟨rfl, rfl⟩
  go_wp2_with fail
  refine (awake_any _).mono ?_
  rintro e w' ⟨rfl, rfl⟩
  go_wp2_with fail
  go_ret
  exact ⟨rfl, ⟨rfl, rfl, rfl, Nat.le_refl _, fun _ _ => rfl⟩⟩
set_option maxRecDepth 100000 in
set_option maxHeartbeats 1000000 in
theorem near_zero_true (v : Nat) (w : World) (hv : lt64 v) (h : rg v = 0) (hs : ng v = true) :
    Calls Try.prog 6 #[.int .u64 v] w fun e w' => e = .returned (.bool true) ∧ Below w.heap.size w w' := by
  have HF := from_num v w (by omega)
  have HN := next_zero_true v w hv h hs
  have HP : Calls Try.prog 18 #[.float .f64 v] w fun e w' => e = .returned (.float .f64 9223372036854775809) ∧ w = w' := (prev_any v w hv).mono fun _ _ ⟨he, hw⟩ => ⟨by rw [he, Fl.prev_zero h], hw⟩
  have HC := class_zero_true v w hv h hs
  have b1 : Calls Try.prog 14 #[.float .f64 1] w fun e w' => e = .returned (.int .u64 1) ∧ w = w' := bits_num 1 w (by decide)
  have b2 : Calls Try.prog 14 #[.float .f64 9223372036854775809] w fun e w' => e = .returned (.int .u64 9223372036854775809) ∧ w = w' := bits_num 9223372036854775809 w (by decide)
  clear h hs
  go_enter Try.func6, Try.ntmps6
  go_wp2_with fail
  refine (HF).mono ?_
  rintro e w' ⟨rfl, rfl⟩
  go_wp2_with fail
  refine (HN).mono ?_
  rintro e w' ⟨rfl, rfl⟩
  go_wp2_with fail
  refine (HP).mono ?_
  rintro e w' ⟨rfl, rfl⟩
  go_wp2_with fail
  refine (HC).mono ?_
  rintro e w' ⟨rfl, rfl⟩
  go_wp2_with fail
  refine (b1).mono ?_
  rintro e w' ⟨rfl, rfl⟩
  go_wp2_with fail
  refine (b2).mono ?_
  rintro e w' ⟨rfl, rfl⟩
  go_wp2_with fail
  refine (awake_any _).mono ?_
  rintro e w' ⟨rfl, rfl⟩
  go_wp2_with fail
  go_ret
  exact ⟨rfl, ⟨rfl, rfl, rfl, Nat.le_refl _, fun _ _ => rfl⟩⟩
set_option maxRecDepth 100000 in
set_option maxHeartbeats 1000000 in
theorem near_inf  (w : World) :
    Calls Try.prog 6 #[.int .u64 9218868437227405312] w fun e w' => e = .returned (.bool true) ∧ Below w.heap.size w w' := by
  have hv : lt64 9218868437227405312 := by show (9218868437227405312 : Nat) < 18446744073709551616; omega
  have HF : Calls Try.prog 11 #[.int .u64 9218868437227405312] w fun e w' => e = .returned (.float .f64 9218868437227405312) ∧ w = w' := (from_int 9218868437227405312 w).mono fun _ _ ⟨he, hw⟩ => ⟨by rw [he, show cn (Int.toNat 9218868437227405312) = 9218868437227405312 by decide], hw⟩
  have HN := next_inf 9218868437227405312 w hv (by decide) (by decide)
  have HP : Calls Try.prog 18 #[.float .f64 9218868437227405312] w fun e w' => e = .returned (.float .f64 9218868437227405311) ∧ w = w' := (prev_any _ w hv).mono fun _ _ ⟨he, hw⟩ => ⟨by rw [he, Fl.prev_up hv (by decide) (by decide) (by decide)], hw⟩
  have HC := class_inf_false 9218868437227405312 w hv (by decide) (by decide)
  have HD := class_num_false 9218868437227405311 w (by show (9218868437227405311 : Nat) < 18446744073709551616; omega) (by decide) (by decide)
  have t1 : (FloatKind.f64.format.order 9218868437227405312 9218868437227405312 == some .eq) = true := by decide +kernel
  have t2 : (FloatKind.f64.format.order 9218868437227405311 9218868437227405312 == some .lt) = true := by decide +kernel
  clear hv
  go_enter Try.func6, Try.ntmps6
  go_wp2_with fail
  refine (HF).mono ?_
  rintro e w' ⟨rfl, rfl⟩
  go_wp2_with fail
  refine (HN).mono ?_
  rintro e w' ⟨rfl, rfl⟩
  go_wp2_with fail
  refine (HP).mono ?_
  rintro e w' ⟨rfl, rfl⟩
  go_wp2_with fail
  refine (HC).mono ?_
  rintro e w' ⟨rfl, rfl⟩
  go_wp2_with fail
  refine (HD).mono ?_
  rintro e w' ⟨rfl, rfl⟩
  go_wp2_with fail
  refine (awake_any _).mono ?_
  rintro e w' ⟨rfl, rfl⟩
  go_wp2_with fail
  go_ret
  exact ⟨rfl, ⟨rfl, rfl, rfl, Nat.le_refl _, fun _ _ => rfl⟩⟩
set_option maxRecDepth 100000 in
set_option maxHeartbeats 1000000 in
theorem near_ninf  (w : World) :
    Calls Try.prog 6 #[.int .u64 18442240474082181120] w fun e w' => e = .returned (.bool true) ∧ Below w.heap.size w w' := by
  have hv : lt64 18442240474082181120 := by show (18442240474082181120 : Nat) < 18446744073709551616; omega
  have HF : Calls Try.prog 11 #[.int .u64 18442240474082181120] w fun e w' => e = .returned (.float .f64 18442240474082181120) ∧ w = w' := (from_int 18442240474082181120 w).mono fun _ _ ⟨he, hw⟩ => ⟨by rw [he, show cn (Int.toNat 18442240474082181120) = 18442240474082181120 by decide], hw⟩
  have HN : Calls Try.prog 17 #[.float .f64 18442240474082181120] w fun e w' => e = .returned (.float .f64 18442240474082181119) ∧ w = w' := (next_any _ w hv).mono fun _ _ ⟨he, hw⟩ => ⟨by rw [he, Fl.next_down (by decide) (by decide) (by decide)], hw⟩
  have HP : Calls Try.prog 18 #[.float .f64 18442240474082181120] w fun e w' => e = .returned (.float .f64 18442240474082181120) ∧ w = w' := (prev_any _ w hv).mono fun _ _ ⟨he, hw⟩ => ⟨by rw [he, Fl.prev_inf hv (by decide) (by decide)], hw⟩
  have HC := class_inf_true 18442240474082181120 w hv (by decide) (by decide)
  have HD := class_num_true 18442240474082181119 w (by show (18442240474082181119 : Nat) < 18446744073709551616; omega) (by decide) (by decide)
  have t1 : (FloatKind.f64.format.order 18442240474082181120 18442240474082181120 == some .eq) = true := by decide +kernel
  have t2 : (FloatKind.f64.format.order 18442240474082181119 18442240474082181120 == some .gt) = true := by decide +kernel
  clear hv
  go_enter Try.func6, Try.ntmps6
  go_wp2_with fail
  refine (HF).mono ?_
  rintro e w' ⟨rfl, rfl⟩
  go_wp2_with fail
  refine (HN).mono ?_
  rintro e w' ⟨rfl, rfl⟩
  go_wp2_with fail
  refine (HP).mono ?_
  rintro e w' ⟨rfl, rfl⟩
  go_wp2_with fail
  refine (HC).mono ?_
  rintro e w' ⟨rfl, rfl⟩
  go_wp2_with fail
  refine (HD).mono ?_
  rintro e w' ⟨rfl, rfl⟩
  go_wp2_with fail
  refine (awake_any _).mono ?_
  rintro e w' ⟨rfl, rfl⟩
  go_wp2_with fail
  go_ret
  exact ⟨rfl, ⟨rfl, rfl, rfl, Nat.le_refl _, fun _ _ => rfl⟩⟩
theorem eq_at {x y : Nat} (hx : rg x ≤ 9218868437227405312) (hy : rg y ≤ 9218868437227405312) (h : sk x = sk y) : (FloatKind.f64.format.order x y == some .eq) = true := by
  rw [fmt64, o_eq]; simp [hx, hy, h]
theorem prev_of_next {x : Nat} (hx : lt64 x) (h : rg x < 9218868437227405312) (h0 : 0 < rg x) : prevV (nextV x) = x := by
  rcases Nat.eq_zero_or_pos (rg (nextV x)) with g | g
  · rw [Fl.prev_zero g]
    cases hs : ng x
    · have hw := mk_rg_lt hx hs
      rw [next_up hx hs h, rg_low (by omega)] at g
      omega
    · have hw := mk_rg_ge hx hs
      rw [next_down hs h0 (by omega), show x - 1 = 9223372036854775808 + (rg x - 1) by omega, rg_high (by omega)] at g
      omega
  · exact prev_next hx h h0 g
theorem next_of_prev {x : Nat} (hx : lt64 x) (h : rg x < 9218868437227405312) (h0 : 0 < rg x) : nextV (prevV x) = x := by
  rcases Nat.eq_zero_or_pos (rg (prevV x)) with g | g
  · rw [Fl.next_zero g]
    cases hs : ng x
    · have hw := mk_rg_lt hx hs
      rw [prev_up hx hs h0 (by omega), rg_low (by omega)] at g
      omega
    · have hw := mk_rg_ge hx hs
      rw [prev_down hx hs h, show x + 1 = 9223372036854775808 + (rg x + 1) by omega, rg_high (by omega)] at g
      omega
  · exact next_prev hx h h0 g
theorem mid_fact {v : Nat} (hv : lt64 v) (h : rg v < 9218868437227405312) (h0 : 0 < rg v) :
    (∀ W1 W2 W3 : World, (FloatKind.f64.format.order (fR .add v (fR .quo (fR .sub (nextV v) v W1) 4611686018427387904 W2) W3) v == some .eq) = true) ∨
    ((∀ W1 W2 W3 : World, (FloatKind.f64.format.order (fR .add v (fR .quo (fR .sub (nextV v) v W1) 4611686018427387904 W2) W3) v == some .eq) = false) ∧ ∀ W1 W2 W3 : World, (FloatKind.f64.format.order (fR .add v (fR .quo (fR .sub (nextV v) v W1) 4611686018427387904 W2) W3) (nextV v) == some .eq) = true) := by
  obtain ⟨k1, k2⟩ := sk_next hv h h0
  rcases Nat.lt_or_ge (rg (nextV v)) 9218868437227405312 with g | g
  · obtain ⟨m1, m2, m3, m4⟩ := mid_way hv h h0 g
    have e : ∀ W1 W2 W3 : World, fR .add v (fR .quo (fR .sub (nextV v) v W1) 4611686018427387904 W2) W3 = fop .add v (fop .quo (fop .sub (nextV v) v) 4611686018427387904) := fun W1 W2 W3 => by
      rw [fR_num m3 W1, fR_num m1 W2, fR_num m2 W3]
    rcases m4 with m4 | m4
    · exact .inl fun W1 W2 W3 => by rw [e]; exact eq_at m2 (by omega) m4
    · refine .inr ⟨fun W1 W2 W3 => ?_, fun W1 W2 W3 => by rw [e]; exact eq_at m2 k2 m4⟩
      rw [e, fmt64, o_eq, m4, k1]
      simp
      omega
  · have hi : rg (nextV v) = 9218868437227405312 := by omega
    have hs : ng v = false := by
      cases hs : ng v
      · rfl
      · exfalso
        have hw := mk_rg_ge hv hs
        rw [next_down hs h0 (by omega), show v - 1 = 9223372036854775808 + (rg v - 1) by omega, rg_high (by omega)] at hi
        omega
    have hw := mk_rg_lt hv hs
    have hn : nextV v = v + 1 := next_up hv hs h
    have hv1 : v = 9218868437227405311 := by rw [hn, rg_low (by omega)] at hi; omega
    subst hv1
    rw [hn]
    have f1 : fop .sub (9218868437227405311 + 1) 9218868437227405311 = 9218868437227405312 := by decide +kernel
    have f2 : fop .quo 9218868437227405312 4611686018427387904 = 9218868437227405312 := by decide +kernel
    have f3 : fop .add 9218868437227405311 9218868437227405312 = 9218868437227405312 := by decide +kernel
    have e : ∀ W1 W2 W3 : World, fR .add 9218868437227405311 (fR .quo (fR .sub (9218868437227405311 + 1) 9218868437227405311 W1) 4611686018427387904 W2) W3 = 9218868437227405312 := fun W1 W2 W3 => by
      rw [fR_num (by rw [f1]; decide) W1, f1, fR_num (by rw [f2]; decide) W2, f2, fR_num (by rw [f3]; decide) W3, f3]
    exact .inr ⟨fun W1 W2 W3 => by rw [e]; decide +kernel, fun W1 W2 W3 => by rw [e]; decide +kernel⟩
set_option maxRecDepth 100000 in
set_option maxHeartbeats 1000000 in
theorem near_sub_true_a (v : Nat) (w : World) (hv : lt64 v) (h : 0 < rg v ∧ rg v < 4503599627370496) (hs : ng v = true) (m1 : ∀ W1 W2 W3 : World, (FloatKind.f64.format.order (fR .add v (fR .quo (fR .sub (nextV v) v W1) 4611686018427387904 W2) W3) v == some .eq) = true) :
    Calls Try.prog 6 #[.int .u64 v] w fun e w' => e = .returned (.bool true) ∧ Below w.heap.size w w' := by
  have HF := from_num v w (by omega)
  have HC := class_sub_true v w hv h hs
  have hn := next_lt hv
  have hp : lt64 (prevV v) := by
    rw [prev_num (by omega)]
    exact flip_lt (next_lt (flip_lt hv))
  obtain ⟨k1, k2⟩ := sk_next hv (by omega) (by omega)
  obtain ⟨k3, k4⟩ := sk_prev hv (by omega) (by omega)
  have t1 : (FloatKind.f64.format.order (prevV v) v == some .lt) = true := by rw [fmt64, o_lt]; simp; omega
  have t2 : (FloatKind.f64.format.order v (nextV v) == some .lt) = true := by rw [fmt64, o_lt]; simp; omega
  have t3 : (FloatKind.f64.format.order (prevV (nextV v)) v == some .eq) = true := by rw [prev_of_next hv (by omega) (by omega)]; exact t_eq_num (by omega)
  have t4 : (FloatKind.f64.format.order (nextV (prevV v)) v == some .eq) = true := by rw [next_of_prev hv (by omega) (by omega)]; exact t_eq_num (by omega)
  clear k1 k2 k3 k4 h hs
  go_enter Try.func6, Try.ntmps6
  go_wp2_with fail
  refine (HF).mono ?_
  rintro e w' ⟨rfl, rfl⟩
  go_wp2_with fail
  refine (next_any _ _ hv).mono ?_
  rintro e w' ⟨rfl, rfl⟩
  go_wp2_with fail
  refine (prev_any _ _ hv).mono ?_
  rintro e w' ⟨rfl, rfl⟩
  go_wp2_with fail
  refine (HC).mono ?_
  rintro e w' ⟨rfl, rfl⟩
  go_wp2_with fail
  refine (prev_any _ _ hn).mono ?_
  rintro e w' ⟨rfl, rfl⟩
  go_wp2_with fail
  refine (next_any _ _ hp).mono ?_
  rintro e w' ⟨rfl, rfl⟩
  go_wp2_with fail
  refine (awake_any _).mono ?_
  rintro e w' ⟨rfl, rfl⟩
  go_wp2_with fail
  go_ret
  exact ⟨rfl, ⟨rfl, rfl, rfl, Nat.le_refl _, fun _ _ => rfl⟩⟩
set_option maxRecDepth 100000 in
set_option maxHeartbeats 1000000 in
theorem near_sub_true_b (v : Nat) (w : World) (hv : lt64 v) (h : 0 < rg v ∧ rg v < 4503599627370496) (hs : ng v = true) (m1 : ∀ W1 W2 W3 : World, (FloatKind.f64.format.order (fR .add v (fR .quo (fR .sub (nextV v) v W1) 4611686018427387904 W2) W3) v == some .eq) = false) (m2 : ∀ W1 W2 W3 : World, (FloatKind.f64.format.order (fR .add v (fR .quo (fR .sub (nextV v) v W1) 4611686018427387904 W2) W3) (nextV v) == some .eq) = true) :
    Calls Try.prog 6 #[.int .u64 v] w fun e w' => e = .returned (.bool true) ∧ Below w.heap.size w w' := by
  have HF := from_num v w (by omega)
  have HC := class_sub_true v w hv h hs
  have hn := next_lt hv
  have hp : lt64 (prevV v) := by
    rw [prev_num (by omega)]
    exact flip_lt (next_lt (flip_lt hv))
  obtain ⟨k1, k2⟩ := sk_next hv (by omega) (by omega)
  obtain ⟨k3, k4⟩ := sk_prev hv (by omega) (by omega)
  have t1 : (FloatKind.f64.format.order (prevV v) v == some .lt) = true := by rw [fmt64, o_lt]; simp; omega
  have t2 : (FloatKind.f64.format.order v (nextV v) == some .lt) = true := by rw [fmt64, o_lt]; simp; omega
  have t3 : (FloatKind.f64.format.order (prevV (nextV v)) v == some .eq) = true := by rw [prev_of_next hv (by omega) (by omega)]; exact t_eq_num (by omega)
  have t4 : (FloatKind.f64.format.order (nextV (prevV v)) v == some .eq) = true := by rw [next_of_prev hv (by omega) (by omega)]; exact t_eq_num (by omega)
  clear k1 k2 k3 k4 h hs
  go_enter Try.func6, Try.ntmps6
  go_wp2_with fail
  refine (HF).mono ?_
  rintro e w' ⟨rfl, rfl⟩
  go_wp2_with fail
  refine (next_any _ _ hv).mono ?_
  rintro e w' ⟨rfl, rfl⟩
  go_wp2_with fail
  refine (prev_any _ _ hv).mono ?_
  rintro e w' ⟨rfl, rfl⟩
  go_wp2_with fail
  refine (HC).mono ?_
  rintro e w' ⟨rfl, rfl⟩
  go_wp2_with fail
  refine (prev_any _ _ hn).mono ?_
  rintro e w' ⟨rfl, rfl⟩
  go_wp2_with fail
  refine (next_any _ _ hp).mono ?_
  rintro e w' ⟨rfl, rfl⟩
  go_wp2_with fail
  refine (awake_any _).mono ?_
  rintro e w' ⟨rfl, rfl⟩
  go_wp2_with fail
  go_ret
  exact ⟨rfl, ⟨rfl, rfl, rfl, Nat.le_refl _, fun _ _ => rfl⟩⟩
set_option maxRecDepth 100000 in
set_option maxHeartbeats 1000000 in
theorem near_sub_false_a (v : Nat) (w : World) (hv : lt64 v) (h : 0 < rg v ∧ rg v < 4503599627370496) (hs : ng v = false) (m1 : ∀ W1 W2 W3 : World, (FloatKind.f64.format.order (fR .add v (fR .quo (fR .sub (nextV v) v W1) 4611686018427387904 W2) W3) v == some .eq) = true) :
    Calls Try.prog 6 #[.int .u64 v] w fun e w' => e = .returned (.bool true) ∧ Below w.heap.size w w' := by
  have HF := from_num v w (by omega)
  have HC := class_sub_false v w hv h hs
  have hn := next_lt hv
  have hp : lt64 (prevV v) := by
    rw [prev_num (by omega)]
    exact flip_lt (next_lt (flip_lt hv))
  obtain ⟨k1, k2⟩ := sk_next hv (by omega) (by omega)
  obtain ⟨k3, k4⟩ := sk_prev hv (by omega) (by omega)
  have t1 : (FloatKind.f64.format.order (prevV v) v == some .lt) = true := by rw [fmt64, o_lt]; simp; omega
  have t2 : (FloatKind.f64.format.order v (nextV v) == some .lt) = true := by rw [fmt64, o_lt]; simp; omega
  have t3 : (FloatKind.f64.format.order (prevV (nextV v)) v == some .eq) = true := by rw [prev_of_next hv (by omega) (by omega)]; exact t_eq_num (by omega)
  have t4 : (FloatKind.f64.format.order (nextV (prevV v)) v == some .eq) = true := by rw [next_of_prev hv (by omega) (by omega)]; exact t_eq_num (by omega)
  clear k1 k2 k3 k4 h hs
  go_enter Try.func6, Try.ntmps6
  go_wp2_with fail
  refine (HF).mono ?_
  rintro e w' ⟨rfl, rfl⟩
  go_wp2_with fail
  refine (next_any _ _ hv).mono ?_
  rintro e w' ⟨rfl, rfl⟩
  go_wp2_with fail
  refine (prev_any _ _ hv).mono ?_
  rintro e w' ⟨rfl, rfl⟩
  go_wp2_with fail
  refine (HC).mono ?_
  rintro e w' ⟨rfl, rfl⟩
  go_wp2_with fail
  refine (prev_any _ _ hn).mono ?_
  rintro e w' ⟨rfl, rfl⟩
  go_wp2_with fail
  refine (next_any _ _ hp).mono ?_
  rintro e w' ⟨rfl, rfl⟩
  go_wp2_with fail
  refine (awake_any _).mono ?_
  rintro e w' ⟨rfl, rfl⟩
  go_wp2_with fail
  go_ret
  exact ⟨rfl, ⟨rfl, rfl, rfl, Nat.le_refl _, fun _ _ => rfl⟩⟩
set_option maxRecDepth 100000 in
set_option maxHeartbeats 1000000 in
theorem near_sub_false_b (v : Nat) (w : World) (hv : lt64 v) (h : 0 < rg v ∧ rg v < 4503599627370496) (hs : ng v = false) (m1 : ∀ W1 W2 W3 : World, (FloatKind.f64.format.order (fR .add v (fR .quo (fR .sub (nextV v) v W1) 4611686018427387904 W2) W3) v == some .eq) = false) (m2 : ∀ W1 W2 W3 : World, (FloatKind.f64.format.order (fR .add v (fR .quo (fR .sub (nextV v) v W1) 4611686018427387904 W2) W3) (nextV v) == some .eq) = true) :
    Calls Try.prog 6 #[.int .u64 v] w fun e w' => e = .returned (.bool true) ∧ Below w.heap.size w w' := by
  have HF := from_num v w (by omega)
  have HC := class_sub_false v w hv h hs
  have hn := next_lt hv
  have hp : lt64 (prevV v) := by
    rw [prev_num (by omega)]
    exact flip_lt (next_lt (flip_lt hv))
  obtain ⟨k1, k2⟩ := sk_next hv (by omega) (by omega)
  obtain ⟨k3, k4⟩ := sk_prev hv (by omega) (by omega)
  have t1 : (FloatKind.f64.format.order (prevV v) v == some .lt) = true := by rw [fmt64, o_lt]; simp; omega
  have t2 : (FloatKind.f64.format.order v (nextV v) == some .lt) = true := by rw [fmt64, o_lt]; simp; omega
  have t3 : (FloatKind.f64.format.order (prevV (nextV v)) v == some .eq) = true := by rw [prev_of_next hv (by omega) (by omega)]; exact t_eq_num (by omega)
  have t4 : (FloatKind.f64.format.order (nextV (prevV v)) v == some .eq) = true := by rw [next_of_prev hv (by omega) (by omega)]; exact t_eq_num (by omega)
  clear k1 k2 k3 k4 h hs
  go_enter Try.func6, Try.ntmps6
  go_wp2_with fail
  refine (HF).mono ?_
  rintro e w' ⟨rfl, rfl⟩
  go_wp2_with fail
  refine (next_any _ _ hv).mono ?_
  rintro e w' ⟨rfl, rfl⟩
  go_wp2_with fail
  refine (prev_any _ _ hv).mono ?_
  rintro e w' ⟨rfl, rfl⟩
  go_wp2_with fail
  refine (HC).mono ?_
  rintro e w' ⟨rfl, rfl⟩
  go_wp2_with fail
  refine (prev_any _ _ hn).mono ?_
  rintro e w' ⟨rfl, rfl⟩
  go_wp2_with fail
  refine (next_any _ _ hp).mono ?_
  rintro e w' ⟨rfl, rfl⟩
  go_wp2_with fail
  refine (awake_any _).mono ?_
  rintro e w' ⟨rfl, rfl⟩
  go_wp2_with fail
  go_ret
  exact ⟨rfl, ⟨rfl, rfl, rfl, Nat.le_refl _, fun _ _ => rfl⟩⟩
set_option maxRecDepth 100000 in
set_option maxHeartbeats 1000000 in
theorem near_num_true_a (v : Nat) (w : World) (hv : lt64 v) (h : 4503599627370496 ≤ rg v ∧ rg v < 9218868437227405312) (hs : ng v = true) (m1 : ∀ W1 W2 W3 : World, (FloatKind.f64.format.order (fR .add v (fR .quo (fR .sub (nextV v) v W1) 4611686018427387904 W2) W3) v == some .eq) = true) :
    Calls Try.prog 6 #[.int .u64 v] w fun e w' => e = .returned (.bool true) ∧ Below w.heap.size w w' := by
  have HF := from_num v w (by omega)
  have HC := class_num_true v w hv h hs
  have hn := next_lt hv
  have hp : lt64 (prevV v) := by
    rw [prev_num (by omega)]
    exact flip_lt (next_lt (flip_lt hv))
  obtain ⟨k1, k2⟩ := sk_next hv (by omega) (by omega)
  obtain ⟨k3, k4⟩ := sk_prev hv (by omega) (by omega)
  have t1 : (FloatKind.f64.format.order (prevV v) v == some .lt) = true := by rw [fmt64, o_lt]; simp; omega
  have t2 : (FloatKind.f64.format.order v (nextV v) == some .lt) = true := by rw [fmt64, o_lt]; simp; omega
  have t3 : (FloatKind.f64.format.order (prevV (nextV v)) v == some .eq) = true := by rw [prev_of_next hv (by omega) (by omega)]; exact t_eq_num (by omega)
  have t4 : (FloatKind.f64.format.order (nextV (prevV v)) v == some .eq) = true := by rw [next_of_prev hv (by omega) (by omega)]; exact t_eq_num (by omega)
  clear k1 k2 k3 k4 h hs
  go_enter Try.func6, Try.ntmps6
  go_wp2_with fail
  refine (HF).mono ?_
  rintro e w' ⟨rfl, rfl⟩
  go_wp2_with fail
  refine (next_any _ _ hv).mono ?_
  rintro e w' ⟨rfl, rfl⟩
  go_wp2_with fail
  refine (prev_any _ _ hv).mono ?_
  rintro e w' ⟨rfl, rfl⟩
  go_wp2_with fail
  refine (HC).mono ?_
  rintro e w' ⟨rfl, rfl⟩
  go_wp2_with fail
  refine (prev_any _ _ hn).mono ?_
  rintro e w' ⟨rfl, rfl⟩
  go_wp2_with fail
  refine (next_any _ _ hp).mono ?_
  rintro e w' ⟨rfl, rfl⟩
  go_wp2_with fail
  refine (awake_any _).mono ?_
  rintro e w' ⟨rfl, rfl⟩
  go_wp2_with fail
  go_ret
  exact ⟨rfl, ⟨rfl, rfl, rfl, Nat.le_refl _, fun _ _ => rfl⟩⟩
set_option maxRecDepth 100000 in
set_option maxHeartbeats 1000000 in
theorem near_num_true_b (v : Nat) (w : World) (hv : lt64 v) (h : 4503599627370496 ≤ rg v ∧ rg v < 9218868437227405312) (hs : ng v = true) (m1 : ∀ W1 W2 W3 : World, (FloatKind.f64.format.order (fR .add v (fR .quo (fR .sub (nextV v) v W1) 4611686018427387904 W2) W3) v == some .eq) = false) (m2 : ∀ W1 W2 W3 : World, (FloatKind.f64.format.order (fR .add v (fR .quo (fR .sub (nextV v) v W1) 4611686018427387904 W2) W3) (nextV v) == some .eq) = true) :
    Calls Try.prog 6 #[.int .u64 v] w fun e w' => e = .returned (.bool true) ∧ Below w.heap.size w w' := by
  have HF := from_num v w (by omega)
  have HC := class_num_true v w hv h hs
  have hn := next_lt hv
  have hp : lt64 (prevV v) := by
    rw [prev_num (by omega)]
    exact flip_lt (next_lt (flip_lt hv))
  obtain ⟨k1, k2⟩ := sk_next hv (by omega) (by omega)
  obtain ⟨k3, k4⟩ := sk_prev hv (by omega) (by omega)
  have t1 : (FloatKind.f64.format.order (prevV v) v == some .lt) = true := by rw [fmt64, o_lt]; simp; omega
  have t2 : (FloatKind.f64.format.order v (nextV v) == some .lt) = true := by rw [fmt64, o_lt]; simp; omega
  have t3 : (FloatKind.f64.format.order (prevV (nextV v)) v == some .eq) = true := by rw [prev_of_next hv (by omega) (by omega)]; exact t_eq_num (by omega)
  have t4 : (FloatKind.f64.format.order (nextV (prevV v)) v == some .eq) = true := by rw [next_of_prev hv (by omega) (by omega)]; exact t_eq_num (by omega)
  clear k1 k2 k3 k4 h hs
  go_enter Try.func6, Try.ntmps6
  go_wp2_with fail
  refine (HF).mono ?_
  rintro e w' ⟨rfl, rfl⟩
  go_wp2_with fail
  refine (next_any _ _ hv).mono ?_
  rintro e w' ⟨rfl, rfl⟩
  go_wp2_with fail
  refine (prev_any _ _ hv).mono ?_
  rintro e w' ⟨rfl, rfl⟩
  go_wp2_with fail
  refine (HC).mono ?_
  rintro e w' ⟨rfl, rfl⟩
  go_wp2_with fail
  refine (prev_any _ _ hn).mono ?_
  rintro e w' ⟨rfl, rfl⟩
  go_wp2_with fail
  refine (next_any _ _ hp).mono ?_
  rintro e w' ⟨rfl, rfl⟩
  go_wp2_with fail
  refine (awake_any _).mono ?_
  rintro e w' ⟨rfl, rfl⟩
  go_wp2_with fail
  go_ret
  exact ⟨rfl, ⟨rfl, rfl, rfl, Nat.le_refl _, fun _ _ => rfl⟩⟩
set_option maxRecDepth 100000 in
set_option maxHeartbeats 1000000 in
theorem near_num_false_a (v : Nat) (w : World) (hv : lt64 v) (h : 4503599627370496 ≤ rg v ∧ rg v < 9218868437227405312) (hs : ng v = false) (m1 : ∀ W1 W2 W3 : World, (FloatKind.f64.format.order (fR .add v (fR .quo (fR .sub (nextV v) v W1) 4611686018427387904 W2) W3) v == some .eq) = true) :
    Calls Try.prog 6 #[.int .u64 v] w fun e w' => e = .returned (.bool true) ∧ Below w.heap.size w w' := by
  have HF := from_num v w (by omega)
  have HC := class_num_false v w hv h hs
  have hn := next_lt hv
  have hp : lt64 (prevV v) := by
    rw [prev_num (by omega)]
    exact flip_lt (next_lt (flip_lt hv))
  obtain ⟨k1, k2⟩ := sk_next hv (by omega) (by omega)
  obtain ⟨k3, k4⟩ := sk_prev hv (by omega) (by omega)
  have t1 : (FloatKind.f64.format.order (prevV v) v == some .lt) = true := by rw [fmt64, o_lt]; simp; omega
  have t2 : (FloatKind.f64.format.order v (nextV v) == some .lt) = true := by rw [fmt64, o_lt]; simp; omega
  have t3 : (FloatKind.f64.format.order (prevV (nextV v)) v == some .eq) = true := by rw [prev_of_next hv (by omega) (by omega)]; exact t_eq_num (by omega)
  have t4 : (FloatKind.f64.format.order (nextV (prevV v)) v == some .eq) = true := by rw [next_of_prev hv (by omega) (by omega)]; exact t_eq_num (by omega)
  clear k1 k2 k3 k4 h hs
  go_enter Try.func6, Try.ntmps6
  go_wp2_with fail
  refine (HF).mono ?_
  rintro e w' ⟨rfl, rfl⟩
  go_wp2_with fail
  refine (next_any _ _ hv).mono ?_
  rintro e w' ⟨rfl, rfl⟩
  go_wp2_with fail
  refine (prev_any _ _ hv).mono ?_
  rintro e w' ⟨rfl, rfl⟩
  go_wp2_with fail
  refine (HC).mono ?_
  rintro e w' ⟨rfl, rfl⟩
  go_wp2_with fail
  refine (prev_any _ _ hn).mono ?_
  rintro e w' ⟨rfl, rfl⟩
  go_wp2_with fail
  refine (next_any _ _ hp).mono ?_
  rintro e w' ⟨rfl, rfl⟩
  go_wp2_with fail
  refine (awake_any _).mono ?_
  rintro e w' ⟨rfl, rfl⟩
  go_wp2_with fail
  go_ret
  exact ⟨rfl, ⟨rfl, rfl, rfl, Nat.le_refl _, fun _ _ => rfl⟩⟩
set_option maxRecDepth 100000 in
set_option maxHeartbeats 1000000 in
theorem near_num_false_b (v : Nat) (w : World) (hv : lt64 v) (h : 4503599627370496 ≤ rg v ∧ rg v < 9218868437227405312) (hs : ng v = false) (m1 : ∀ W1 W2 W3 : World, (FloatKind.f64.format.order (fR .add v (fR .quo (fR .sub (nextV v) v W1) 4611686018427387904 W2) W3) v == some .eq) = false) (m2 : ∀ W1 W2 W3 : World, (FloatKind.f64.format.order (fR .add v (fR .quo (fR .sub (nextV v) v W1) 4611686018427387904 W2) W3) (nextV v) == some .eq) = true) :
    Calls Try.prog 6 #[.int .u64 v] w fun e w' => e = .returned (.bool true) ∧ Below w.heap.size w w' := by
  have HF := from_num v w (by omega)
  have HC := class_num_false v w hv h hs
  have hn := next_lt hv
  have hp : lt64 (prevV v) := by
    rw [prev_num (by omega)]
    exact flip_lt (next_lt (flip_lt hv))
  obtain ⟨k1, k2⟩ := sk_next hv (by omega) (by omega)
  obtain ⟨k3, k4⟩ := sk_prev hv (by omega) (by omega)
  have t1 : (FloatKind.f64.format.order (prevV v) v == some .lt) = true := by rw [fmt64, o_lt]; simp; omega
  have t2 : (FloatKind.f64.format.order v (nextV v) == some .lt) = true := by rw [fmt64, o_lt]; simp; omega
  have t3 : (FloatKind.f64.format.order (prevV (nextV v)) v == some .eq) = true := by rw [prev_of_next hv (by omega) (by omega)]; exact t_eq_num (by omega)
  have t4 : (FloatKind.f64.format.order (nextV (prevV v)) v == some .eq) = true := by rw [next_of_prev hv (by omega) (by omega)]; exact t_eq_num (by omega)
  clear k1 k2 k3 k4 h hs
  go_enter Try.func6, Try.ntmps6
  go_wp2_with fail
  refine (HF).mono ?_
  rintro e w' ⟨rfl, rfl⟩
  go_wp2_with fail
  refine (next_any _ _ hv).mono ?_
  rintro e w' ⟨rfl, rfl⟩
  go_wp2_with fail
  refine (prev_any _ _ hv).mono ?_
  rintro e w' ⟨rfl, rfl⟩
  go_wp2_with fail
  refine (HC).mono ?_
  rintro e w' ⟨rfl, rfl⟩
  go_wp2_with fail
  refine (prev_any _ _ hn).mono ?_
  rintro e w' ⟨rfl, rfl⟩
  go_wp2_with fail
  refine (next_any _ _ hp).mono ?_
  rintro e w' ⟨rfl, rfl⟩
  go_wp2_with fail
  refine (awake_any _).mono ?_
  rintro e w' ⟨rfl, rfl⟩
  go_wp2_with fail
  go_ret
  exact ⟨rfl, ⟨rfl, rfl, rfl, Nat.le_refl _, fun _ _ => rfl⟩⟩
theorem near_walk (v : Int) (w : World) (hv : (Lit.int .u64 v).wf = true) :
    Calls Try.prog 6 #[.int .u64 v] w fun e w' => e = .returned (.bool true) ∧ Below w.heap.size w w' := by
  obtain ⟨n, rfl, hn⟩ := u64_nat hv
  rcases class_ways n with h | ⟨h0, h | h | h | h⟩
  · exact near_nan n w hn h
  · cases hs : ng n
    · exact near_zero_false n w hn h hs
    · exact near_zero_true n w hn h hs
  · rcases mid_fact hn (by omega) (by omega) with m | ⟨m, m'⟩
    · cases hs : ng n
      · exact near_sub_false_a n w hn h hs m
      · exact near_sub_true_a n w hn h hs m
    · cases hs : ng n
      · exact near_sub_false_b n w hn h hs m m'
      · exact near_sub_true_b n w hn h hs m m'
  · cases hs : ng n
    · have := mk_rg_lt hn hs
      obtain rfl : n = 9218868437227405312 := by omega
      rw [show ((9218868437227405312 : Nat) : Int) = 9218868437227405312 by rfl]
      exact near_inf w
    · have := mk_rg_ge hn hs
      obtain rfl : n = 18442240474082181120 := by omega
      rw [show ((18442240474082181120 : Nat) : Int) = 18442240474082181120 by rfl]
      exact near_ninf w
  · rcases mid_fact hn (by omega) (by omega) with m | ⟨m, m'⟩
    · cases hs : ng n
      · exact near_num_false_a n w hn h hs m
      · exact near_num_true_a n w hn h hs m
    · cases hs : ng n
      · exact near_num_false_b n w hn h hs m m'
      · exact near_num_true_b n w hn h hs m m'
end Go.Proofs.Ytmnnlchnobbogaa.Fb
