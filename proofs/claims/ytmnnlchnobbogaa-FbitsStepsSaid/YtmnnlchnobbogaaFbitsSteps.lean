/- FbitsSteps: the walk. For every 64 bits and every number of steps the law returns true, and nothing that was there is written. No condition. -/
import Derived.Test.YtmnnlchnobbogaaFbL
import Derived.Test.YtmnnlchnobbogaaFbitsClass
import Derived.LoopTactic
namespace Go.Proofs.Ytmnnlchnobbogaa.Fb
set_option linter.unusedSimpArgs false
set_option linter.unusedVariables false
open Go.RowKit Fl
attribute [local go_sem] and_sgn andNot_sgn xor_sgn xor_all run_neg_float u64_unsigned

def itN : Nat → Nat → Nat
  | 0, x => x
  | k + 1, x => nextV (itN k x)
def itP : Nat → Nat → Nat
  | 0, x => x
  | k + 1, x => prevV (itP k x)
theorem itN_lt {x : Nat} (h : lt64 x) (k : Nat) : lt64 (itN k x) := by
  induction k with
  | zero => exact h
  | succ k ih => exact next_lt ih
theorem prev_lt {x : Nat} (h : lt64 x) : lt64 (prevV x) := by
  unfold prevV
  split
  · show (9221120237041090560 : Nat) < 18446744073709551616; omega
  · exact flip_lt (next_lt (flip_lt h))
theorem itP_lt {x : Nat} (h : lt64 x) (k : Nat) : lt64 (itP k x) := by
  induction k with
  | zero => exact h
  | succ k ih => exact prev_lt ih
theorem itN_pos {x : Nat} (hx : x ≤ 9218868437227405312) (k : Nat) : itN k x = min (x + k) 9218868437227405312 := by
  induction k with
  | zero => show x = _; omega
  | succ k ih =>
    show nextV (itN k x) = _
    have hy : itN k x ≤ 9218868437227405312 := by omega
    have hl : lt64 (itN k x) := by show _ < 18446744073709551616; omega
    have hr := rg_low (show itN k x < 9223372036854775808 by omega)
    have hg := ng_low (show itN k x < 9223372036854775808 by omega)
    by_cases h : itN k x = 9218868437227405312
    · rw [Fl.next_inf hg (by omega)]; omega
    · rw [next_up hl hg (by omega)]; omega
theorem itN_neg {r : Nat} (hr : r ≤ 9218868437227405312) (k : Nat) (hk : k ≤ r) : itN k (9223372036854775808 + r) = 9223372036854775808 + (r - k) := by
  induction k with
  | zero => rfl
  | succ k ih =>
    show nextV (itN k _) = _
    rw [ih (by omega), next_down (ng_high (by omega)) (by rw [rg_high (by omega)]; omega) (by rw [rg_high (by omega)]; omega)]
    omega
theorem ng_next {x : Nat} (hx : lt64 x) (h : rg x ≤ 9218868437227405312) (hs : ng x = false) : ng (nextV x) = false ∧ rg (nextV x) ≤ 9218868437227405312 := by
  have hw := mk_rg_lt hx hs
  by_cases h1 : rg x = 9218868437227405312
  · rw [Fl.next_inf hs h1]; exact ⟨hs, h⟩
  · rw [next_up hx hs (by omega)]; exact ⟨ng_low (by omega), by rw [rg_low (by omega)]; omega⟩
theorem itN_over {r : Nat} (hr : r ≤ 9218868437227405312) (k : Nat) (hk : r < k) : ng (itN k (9223372036854775808 + r)) = false ∧ rg (itN k (9223372036854775808 + r)) ≤ 9218868437227405312 := by
  induction k with
  | zero => omega
  | succ k ih =>
    have hl := itN_lt (x := 9223372036854775808 + r) (by show _ < 18446744073709551616; omega) k
    show ng (nextV (itN k _)) = false ∧ _
    rcases Nat.lt_or_ge r k with h | h
    · exact ng_next hl (ih h).2 (ih h).1
    · obtain rfl : k = r := by omega
      show ng (nextV (itN k _)) = false ∧ rg (nextV (itN k _)) ≤ _
      rw [itN_neg hr k (Nat.le_refl _), Fl.next_zero (by rw [rg_high (by omega)]; omega)]
      decide
theorem itP_pos {y : Nat} (hy : y ≤ 9218868437227405312) (k : Nat) (hk : k ≤ y) : itP k y = y - k := by
  induction k with
  | zero => rfl
  | succ k ih =>
    show prevV (itP k y) = _
    rw [ih (by omega), prev_up (by show y - k < 18446744073709551616; omega) (ng_low (by omega)) (by rw [rg_low (by omega)]; omega) (by rw [rg_low (by omega)]; omega)]
    omega
theorem itP_neg {r : Nat} (k : Nat) (hk : r + k ≤ 9218868437227405312) : itP k (9223372036854775808 + r) = 9223372036854775808 + r + k := by
  induction k with
  | zero => rfl
  | succ k ih =>
    show prevV (itP k _) = _
    rw [ih (by omega), Nat.add_assoc, prev_down (by show _ < 18446744073709551616; omega) (ng_high (by omega)) (by rw [rg_high (by omega)]; omega)]
    omega
/-- so many steps up and down, on the way where the law looks. -/
theorem steps_fact {x : Nat} (hx : lt64 x) (h : rg x ≤ 9218868437227405312) (h0 : 0 < rg x) (m : Nat) (hy : rg (itN m x) ≠ 9218868437227405312) (hs : (ng x && decide (0 < rg x)) = (ng (itN m x) && decide (0 < rg (itN m x)))) :
    rg (itN m x) < 9218868437227405312 ∧ keyV (itN m x) = keyV x + m ∧ itP m (itN m x) = x ∧ keyV x + m < 18446744073709551616 := by
  cases hn : ng x
  · have hw := mk_rg_lt hx hn
    have e := itN_pos (x := x) (by omega) m
    have hl : itN m x < 9223372036854775808 := by omega
    rw [rg_low hl] at hy ⊢
    have e2 : itN m x = x + m := by omega
    have hl2 : lt64 (itN m x) := by show _ < 18446744073709551616; omega
    have hng := ng_low hl
    have hk1 : keyV (itN m x) = 9223372036854775808 + itN m x := by unfold keyV; rw [cn_num (by rw [rg_low hl]; omega), key_low hl2 hng, rg_low hl]
    have hk2 : keyV x = 9223372036854775808 + x := by unfold keyV; rw [cn_num h, key_low hx hn]; omega
    refine ⟨by omega, by omega, ?_, by omega⟩
    rw [e2, itP_pos (by omega) m (by omega)]
    omega
  · have hw := mk_rg_ge hx hn
    have hxr : x = 9223372036854775808 + rg x := hw
    have hm : m < rg x := by
      rcases Nat.lt_or_ge m (rg x) with g | g
      · exact g
      · exfalso
        rw [hn] at hs
        rw [show (true && decide (0 < rg x)) = true by simp [h0]] at hs
        rcases Nat.lt_or_ge (rg x) m with g2 | g2
        · have := (itN_over h m g2).1
          rw [← hxr] at this
          rw [this] at hs
          simp at hs
        · have := itN_neg h m g2
          rw [← hxr] at this
          have e : rg (itN m x) = 0 := by rw [this, rg_high (by omega)]; omega
          rw [e] at hs
          simp at hs
    have e := itN_neg h m (by omega)
    rw [← hxr] at e
    have hr : rg (itN m x) = rg x - m := by rw [e, rg_high (by omega)]
    have hng : ng (itN m x) = true := by rw [e, ng_high (by omega)]
    have hl2 : lt64 (itN m x) := by show _ < 18446744073709551616; omega
    have hk1 : keyV (itN m x) = 9223372036854775807 - (rg x - m) := by unfold keyV; rw [cn_num (by omega), key_high hl2 hng, hr]
    have hk2 : keyV x = 9223372036854775807 - rg x := by unfold keyV; rw [cn_num h, key_high hx hn]
    refine ⟨by omega, by omega, ?_, by omega⟩
    rw [e, itP_neg m (by omega)]
    omega
theorem itN_num {x : Nat} (hx : lt64 x) (h : rg x ≤ 9218868437227405312) (m : Nat) : rg (itN m x) ≤ 9218868437227405312 := by
  cases hn : ng x
  · have hw := mk_rg_lt hx hn
    have e := itN_pos (x := x) (by omega) m
    rw [rg_low (by omega)]; omega
  · have hw := mk_rg_ge hx hn
    rcases Nat.lt_or_ge (rg x) m with g | g
    · have := (itN_over h m g).2
      rwa [← hw] at this
    · have := itN_neg h m g
      rw [← hw] at this
      rw [this, rg_high (by omega)]; omega
theorem lt_zero {x : Nat} (h : rg x ≤ 9218868437227405312) : (FloatKind.f64.format.order x 0 == some .lt) = (ng x && decide (0 < rg x)) := by
  rw [fmt64, o_lt, show sk 0 = 0 by decide, show rg 0 = 0 by decide]
  unfold sk
  rw [Bool.eq_iff_iff]
  cases ng x <;> simp [h]
theorem eq_zero {x : Nat} (h : rg x ≤ 9218868437227405312) : (FloatKind.f64.format.order x 0 == some .eq) = decide (rg x = 0) := by
  rw [fmt64, o_eq, show sk 0 = 0 by decide, show rg 0 = 0 by decide]
  unfold sk
  rw [Bool.eq_iff_iff]
  cases ng x <;> simp [h] <;> omega
theorem diff_inf {x : Nat} (h : rg x = 9218868437227405312) : ∀ W : World, (FloatKind.f64.format.order (fR .sub x x W) 0 != some .eq) = true := fun W => by
  rw [fmt64, o_ne]; have := fR_nan (sub_inf h) W; simp; omega
theorem diff_fin {x : Nat} (h : rg x < 9218868437227405312) : ∀ W : World, (FloatKind.f64.format.order (fR .sub x x W) 0 != some .eq) = false := fun W => by
  rw [fR_num (by rw [sub_self h]; decide) W, sub_self h]; decide +kernel
set_option maxHeartbeats 1000000 in
theorem steps_nan (v : Nat) (m : Int) (w : World) (hv : lt64 v) (h : 9218868437227405312 < rg v) :
    Calls Try.prog 8 #[.int .u64 v, .int .i64 m] w fun e w' => e = .returned (.bool true) ∧ Below w.heap.size w w' := by
  have n1 := t_ne_nan ((cn_isnan v).2 h)
  clear h
  go_enter Try.func8, Try.ntmps8
  go_wp2_with fail
  refine (from_any _ _).mono ?_
  rintro e w' ⟨rfl, rfl⟩
  go_wp2_with fail
  refine (awake_any _).mono ?_
  rintro e w' ⟨rfl, rfl⟩
  go_wp2_with fail
  go_ret
  exact ⟨rfl, Below.refl _ _⟩
set_option maxHeartbeats 1000000 in
theorem steps_low (v : Nat) (m : Int) (w : World) (h : rg v ≤ 9218868437227405312) (h1 : m < 0) :
    Calls Try.prog 8 #[.int .u64 v, .int .i64 m] w fun e w' => e = .returned (.bool true) ∧ Below w.heap.size w w' := by
  have HF := from_num v w h
  have n1 := t_ne_num h
  clear h
  go_enter Try.func8, Try.ntmps8
  go_wp2_with fail
  refine (HF).mono ?_
  rintro e w' ⟨rfl, rfl⟩
  go_wp2_with fail
  refine (awake_any _).mono ?_
  rintro e w' ⟨rfl, rfl⟩
  go_wp2_with fail
  go_ret
  exact ⟨rfl, Below.refl _ _⟩
set_option maxHeartbeats 1000000 in
theorem steps_high (v : Nat) (m : Int) (w : World) (h : rg v ≤ 9218868437227405312) (h0 : 0 ≤ m) (h1 : 50 < m) :
    Calls Try.prog 8 #[.int .u64 v, .int .i64 m] w fun e w' => e = .returned (.bool true) ∧ Below w.heap.size w w' := by
  have HF := from_num v w h
  have n1 := t_ne_num h
  clear h
  go_enter Try.func8, Try.ntmps8
  go_wp2_with fail
  refine (HF).mono ?_
  rintro e w' ⟨rfl, rfl⟩
  go_wp2_with fail
  refine (awake_any _).mono ?_
  rintro e w' ⟨rfl, rfl⟩
  go_wp2_with fail
  go_ret
  exact ⟨rfl, Below.refl _ _⟩
set_option maxHeartbeats 1000000 in
theorem steps_inf (v m : Nat) (w : World) (hv : lt64 v) (h : rg v ≤ 9218868437227405312) (hm : m ≤ 50) (h1 : rg (itN m v) = 9218868437227405312) :
    Calls Try.prog 8 #[.int .u64 v, .int .i64 m] w fun e w' => e = .returned (.bool true) ∧ Below w.heap.size w w' := by
  have HF := from_num v w h
  have n1 := t_ne_num h
  have hm1 : (m : Int) ≤ 50 := by omega
  have hy := itN_num hv h m
  have d1 := diff_inf h1
  clear h1
  clear h hy
  go_enter Try.func8, Try.ntmps8
  go_wp2_with fail
  refine (HF).mono ?_
  rintro e w' ⟨rfl, rfl⟩
  go_wp2_with fail
  go_loop [6, 7] (fun y i => ∃ k : Nat, k ≤ m ∧ i = .int .i64 k ∧ y = .float .f64 (itN k v)) (fun _ i => m - (intOf i).toNat)
  case atStart => exact ⟨0, Nat.zero_le _, rfl, rfl⟩
  case round =>
    obtain ⟨k, hk, rfl, rfl⟩ := hrel
    have hL := itN_lt hv k
    by_cases hlt : k < m
    · go_wp2_with (go_at_call 17; refine (next_any _ _ hL).mono ?_; rintro e w' ⟨rfl, rfl⟩)
      go_round
      case rel => exact ⟨k + 1, by omega, by go_num, rfl⟩
      case measure => simp [intOf]; omega
    · obtain rfl : k = m := by omega
      go_wp2_with fail
      refine (awake_any _).mono ?_
      rintro e w' ⟨rfl, rfl⟩
      go_wp2_with fail
      go_ret
      exact ⟨rfl, ⟨rfl, rfl, rfl, Nat.le_refl _, fun _ _ => rfl⟩⟩
set_option maxHeartbeats 1000000 in
theorem steps_turn_true (v m : Nat) (w : World) (hv : lt64 v) (h : rg v ≤ 9218868437227405312) (hm : m ≤ 50) (h1 : rg (itN m v) < 9218868437227405312) (h2 : (ng v && decide (0 < rg v)) = true) (h3 : (ng (itN m v) && decide (0 < rg (itN m v))) = false) :
    Calls Try.prog 8 #[.int .u64 v, .int .i64 m] w fun e w' => e = .returned (.bool true) ∧ Below w.heap.size w w' := by
  have HF := from_num v w h
  have n1 := t_ne_num h
  have hm1 : (m : Int) ≤ 50 := by omega
  have hy := itN_num hv h m
  have d1 := diff_fin h1
  have l1 := (lt_zero h).trans h2
  have l2 := (lt_zero hy).trans h3
  clear h1 h2 h3
  clear h hy
  go_enter Try.func8, Try.ntmps8
  go_wp2_with fail
  refine (HF).mono ?_
  rintro e w' ⟨rfl, rfl⟩
  go_wp2_with fail
  go_loop [6, 7] (fun y i => ∃ k : Nat, k ≤ m ∧ i = .int .i64 k ∧ y = .float .f64 (itN k v)) (fun _ i => m - (intOf i).toNat)
  case atStart => exact ⟨0, Nat.zero_le _, rfl, rfl⟩
  case round =>
    obtain ⟨k, hk, rfl, rfl⟩ := hrel
    have hL := itN_lt hv k
    by_cases hlt : k < m
    · go_wp2_with (go_at_call 17; refine (next_any _ _ hL).mono ?_; rintro e w' ⟨rfl, rfl⟩)
      go_round
      case rel => exact ⟨k + 1, by omega, by go_num, rfl⟩
      case measure => simp [intOf]; omega
    · obtain rfl : k = m := by omega
      go_wp2_with fail
      refine (awake_any _).mono ?_
      rintro e w' ⟨rfl, rfl⟩
      go_wp2_with fail
      go_ret
      exact ⟨rfl, ⟨rfl, rfl, rfl, Nat.le_refl _, fun _ _ => rfl⟩⟩
set_option maxHeartbeats 1000000 in
theorem steps_turn_false (v m : Nat) (w : World) (hv : lt64 v) (h : rg v ≤ 9218868437227405312) (hm : m ≤ 50) (h1 : rg (itN m v) < 9218868437227405312) (h2 : (ng v && decide (0 < rg v)) = false) (h3 : (ng (itN m v) && decide (0 < rg (itN m v))) = true) :
    Calls Try.prog 8 #[.int .u64 v, .int .i64 m] w fun e w' => e = .returned (.bool true) ∧ Below w.heap.size w w' := by
  have HF := from_num v w h
  have n1 := t_ne_num h
  have hm1 : (m : Int) ≤ 50 := by omega
  have hy := itN_num hv h m
  have d1 := diff_fin h1
  have l1 := (lt_zero h).trans h2
  have l2 := (lt_zero hy).trans h3
  clear h1 h2 h3
  clear h hy
  go_enter Try.func8, Try.ntmps8
  go_wp2_with fail
  refine (HF).mono ?_
  rintro e w' ⟨rfl, rfl⟩
  go_wp2_with fail
  go_loop [6, 7] (fun y i => ∃ k : Nat, k ≤ m ∧ i = .int .i64 k ∧ y = .float .f64 (itN k v)) (fun _ i => m - (intOf i).toNat)
  case atStart => exact ⟨0, Nat.zero_le _, rfl, rfl⟩
  case round =>
    obtain ⟨k, hk, rfl, rfl⟩ := hrel
    have hL := itN_lt hv k
    by_cases hlt : k < m
    · go_wp2_with (go_at_call 17; refine (next_any _ _ hL).mono ?_; rintro e w' ⟨rfl, rfl⟩)
      go_round
      case rel => exact ⟨k + 1, by omega, by go_num, rfl⟩
      case measure => simp [intOf]; omega
    · obtain rfl : k = m := by omega
      go_wp2_with fail
      refine (awake_any _).mono ?_
      rintro e w' ⟨rfl, rfl⟩
      go_wp2_with fail
      go_ret
      exact ⟨rfl, ⟨rfl, rfl, rfl, Nat.le_refl _, fun _ _ => rfl⟩⟩
set_option maxHeartbeats 1000000 in
theorem steps_zero (v m : Nat) (w : World) (hv : lt64 v) (h : rg v ≤ 9218868437227405312) (hm : m ≤ 50) (h1 : rg (itN m v) < 9218868437227405312) (h2 : rg v = 0) (h3 : (ng (itN m v) && decide (0 < rg (itN m v))) = false) :
    Calls Try.prog 8 #[.int .u64 v, .int .i64 m] w fun e w' => e = .returned (.bool true) ∧ Below w.heap.size w w' := by
  have HF := from_num v w h
  have n1 := t_ne_num h
  have hm1 : (m : Int) ≤ 50 := by omega
  have hy := itN_num hv h m
  have d1 := diff_fin h1
  have l1 := (lt_zero h).trans (show (ng v && decide (0 < rg v)) = false by rw [h2]; simp)
  have l2 := (lt_zero hy).trans h3
  have e1 := (eq_zero h).trans (decide_eq_true h2)
  clear h1 h2 h3
  clear h hy
  go_enter Try.func8, Try.ntmps8
  go_wp2_with fail
  refine (HF).mono ?_
  rintro e w' ⟨rfl, rfl⟩
  go_wp2_with fail
  go_loop [6, 7] (fun y i => ∃ k : Nat, k ≤ m ∧ i = .int .i64 k ∧ y = .float .f64 (itN k v)) (fun _ i => m - (intOf i).toNat)
  case atStart => exact ⟨0, Nat.zero_le _, rfl, rfl⟩
  case round =>
    obtain ⟨k, hk, rfl, rfl⟩ := hrel
    have hL := itN_lt hv k
    by_cases hlt : k < m
    · go_wp2_with (go_at_call 17; refine (next_any _ _ hL).mono ?_; rintro e w' ⟨rfl, rfl⟩)
      go_round
      case rel => exact ⟨k + 1, by omega, by go_num, rfl⟩
      case measure => simp [intOf]; omega
    · obtain rfl : k = m := by omega
      go_wp2_with fail
      refine (awake_any _).mono ?_
      rintro e w' ⟨rfl, rfl⟩
      go_wp2_with fail
      go_ret
      exact ⟨rfl, ⟨rfl, rfl, rfl, Nat.le_refl _, fun _ _ => rfl⟩⟩
set_option maxHeartbeats 1000000 in
theorem steps_go_true (v m : Nat) (w : World) (hv : lt64 v) (h : rg v ≤ 9218868437227405312) (hm : m ≤ 50) (h1 : rg (itN m v) ≠ 9218868437227405312) (h2 : (ng v && decide (0 < rg v)) = true) (h3 : (ng (itN m v) && decide (0 < rg (itN m v))) = true) (h4 : 0 < rg v) :
    Calls Try.prog 8 #[.int .u64 v, .int .i64 m] w fun e w' => e = .returned (.bool true) ∧ Below w.heap.size w w' := by
  have HF := from_num v w h
  have n1 := t_ne_num h
  have hm1 : (m : Int) ≤ 50 := by omega
  have hy := itN_num hv h m
  obtain ⟨g1, g2, g3, g4⟩ := steps_fact hv h h4 m h1 (h2.trans h3.symm)
  have d1 := diff_fin g1
  have l1 := (lt_zero h).trans h2
  have l2 := (lt_zero hy).trans h3
  have e1 := (eq_zero h).trans (decide_eq_false (show ¬ rg v = 0 by omega))
  have t5 : (((keyV (itN m v) : Nat) : Int) != IntKind.u64.wrap (((keyV v : Nat) : Int) + ((m : Nat) : Int))) = false := by
    rw [g2, IntKind.wrap_u64, bne_eq_false_iff_eq]; omega
  have t6 : sameB v (itP m (itN m v)) = true := sameB_yes (by rw [g3])
  clear h1 h2 h3 g1 g2 g3 g4
  clear h hy
  go_enter Try.func8, Try.ntmps8
  go_wp2_with fail
  refine (HF).mono ?_
  rintro e w' ⟨rfl, rfl⟩
  go_wp2_with fail
  go_loop [6, 7] (fun y i => ∃ k : Nat, k ≤ m ∧ i = .int .i64 k ∧ y = .float .f64 (itN k v)) (fun _ i => m - (intOf i).toNat)
  case atStart => exact ⟨0, Nat.zero_le _, rfl, rfl⟩
  case round =>
    obtain ⟨k, hk, rfl, rfl⟩ := hrel
    have hL := itN_lt hv k
    by_cases hlt : k < m
    · go_wp2_with (go_at_call 17; refine (next_any _ _ hL).mono ?_; rintro e w' ⟨rfl, rfl⟩)
      go_round
      case rel => exact ⟨k + 1, by omega, by go_num, rfl⟩
      case measure => simp [intOf]; omega
    · obtain rfl : k = m := by omega
      go_wp2_with fail
      refine (key_any _ _ hL).mono ?_
      rintro e w' ⟨rfl, rfl⟩
      go_wp2_with fail
      refine (key_any _ _ hv).mono ?_
      rintro e w' ⟨rfl, rfl⟩
      go_wp2_with fail
      go_loop [6, 8] (fun y i => ∃ j : Nat, j ≤ k ∧ i = .int .i64 j ∧ y = .float .f64 (itP j (itN k v))) (fun _ i => k - (intOf i).toNat)
      case atStart => exact ⟨0, Nat.zero_le _, rfl, rfl⟩
      case round =>
        obtain ⟨j, hj, rfl, rfl⟩ := hrel
        have hP := itP_lt hL j
        by_cases hjt : j < k
        · go_wp2_with (go_at_call 18; refine (prev_any _ _ hP).mono ?_; rintro e w' ⟨rfl, rfl⟩)
          go_round
          case rel => exact ⟨j + 1, by omega, by go_num, rfl⟩
          case measure => simp [intOf]; omega
        · obtain rfl : j = k := by omega
          go_wp2_with fail
          refine (same_any _ _ _).mono ?_
          rintro e w' ⟨rfl, rfl⟩
          go_wp2_with fail
          refine (awake_any _).mono ?_
          rintro e w' ⟨rfl, rfl⟩
          go_wp2_with fail
          go_ret
          exact ⟨rfl, ⟨rfl, rfl, rfl, Nat.le_refl _, fun _ _ => rfl⟩⟩
set_option maxHeartbeats 1000000 in
theorem steps_go_false (v m : Nat) (w : World) (hv : lt64 v) (h : rg v ≤ 9218868437227405312) (hm : m ≤ 50) (h1 : rg (itN m v) ≠ 9218868437227405312) (h2 : (ng v && decide (0 < rg v)) = false) (h3 : (ng (itN m v) && decide (0 < rg (itN m v))) = false) (h4 : 0 < rg v) :
    Calls Try.prog 8 #[.int .u64 v, .int .i64 m] w fun e w' => e = .returned (.bool true) ∧ Below w.heap.size w w' := by
  have HF := from_num v w h
  have n1 := t_ne_num h
  have hm1 : (m : Int) ≤ 50 := by omega
  have hy := itN_num hv h m
  obtain ⟨g1, g2, g3, g4⟩ := steps_fact hv h h4 m h1 (h2.trans h3.symm)
  have d1 := diff_fin g1
  have l1 := (lt_zero h).trans h2
  have l2 := (lt_zero hy).trans h3
  have e1 := (eq_zero h).trans (decide_eq_false (show ¬ rg v = 0 by omega))
  have t5 : (((keyV (itN m v) : Nat) : Int) != IntKind.u64.wrap (((keyV v : Nat) : Int) + ((m : Nat) : Int))) = false := by
    rw [g2, IntKind.wrap_u64, bne_eq_false_iff_eq]; omega
  have t6 : sameB v (itP m (itN m v)) = true := sameB_yes (by rw [g3])
  clear h1 h2 h3 g1 g2 g3 g4
  clear h hy
  go_enter Try.func8, Try.ntmps8
  go_wp2_with fail
  refine (HF).mono ?_
  rintro e w' ⟨rfl, rfl⟩
  go_wp2_with fail
  go_loop [6, 7] (fun y i => ∃ k : Nat, k ≤ m ∧ i = .int .i64 k ∧ y = .float .f64 (itN k v)) (fun _ i => m - (intOf i).toNat)
  case atStart => exact ⟨0, Nat.zero_le _, rfl, rfl⟩
  case round =>
    obtain ⟨k, hk, rfl, rfl⟩ := hrel
    have hL := itN_lt hv k
    by_cases hlt : k < m
    · go_wp2_with (go_at_call 17; refine (next_any _ _ hL).mono ?_; rintro e w' ⟨rfl, rfl⟩)
      go_round
      case rel => exact ⟨k + 1, by omega, by go_num, rfl⟩
      case measure => simp [intOf]; omega
    · obtain rfl : k = m := by omega
      go_wp2_with fail
      refine (key_any _ _ hL).mono ?_
      rintro e w' ⟨rfl, rfl⟩
      go_wp2_with fail
      refine (key_any _ _ hv).mono ?_
      rintro e w' ⟨rfl, rfl⟩
      go_wp2_with fail
      go_loop [6, 8] (fun y i => ∃ j : Nat, j ≤ k ∧ i = .int .i64 j ∧ y = .float .f64 (itP j (itN k v))) (fun _ i => k - (intOf i).toNat)
      case atStart => exact ⟨0, Nat.zero_le _, rfl, rfl⟩
      case round =>
        obtain ⟨j, hj, rfl, rfl⟩ := hrel
        have hP := itP_lt hL j
        by_cases hjt : j < k
        · go_wp2_with (go_at_call 18; refine (prev_any _ _ hP).mono ?_; rintro e w' ⟨rfl, rfl⟩)
          go_round
          case rel => exact ⟨j + 1, by omega, by go_num, rfl⟩
          case measure => simp [intOf]; omega
        · obtain rfl : j = k := by omega
          go_wp2_with fail
          refine (same_any _ _ _).mono ?_
          rintro e w' ⟨rfl, rfl⟩
          go_wp2_with fail
          refine (awake_any _).mono ?_
          rintro e w' ⟨rfl, rfl⟩
          go_wp2_with fail
          go_ret
          exact ⟨rfl, ⟨rfl, rfl, rfl, Nat.le_refl _, fun _ _ => rfl⟩⟩
theorem steps_walk (v : Int) (m : Int) (w : World) (hv : (Lit.int .u64 v).wf = true) (_hm : (Lit.int .i64 m).wf = true) :
    Calls Try.prog 8 #[.int .u64 v, .int .i64 m] w fun e w' => e = .returned (.bool true) ∧ Below w.heap.size w w' := by
  obtain ⟨n, rfl, hn⟩ := u64_nat hv
  rcases Nat.lt_or_ge 9218868437227405312 (rg n) with h | h
  · exact steps_nan n m w hn h
  · rcases Int.lt_or_le m 0 with h0 | h0
    · exact steps_low n m w h h0
    · rcases Int.lt_or_le 50 m with h1 | h1
      · exact steps_high n m w h h0 h1
      · obtain ⟨k, rfl⟩ := Int.eq_ofNat_of_zero_le h0
        have hy := itN_num hn h k
        by_cases i1 : rg (itN k n) = 9218868437227405312
        · exact steps_inf n k w hn h (by omega) i1
        · cases a : (ng n && decide (0 < rg n)) <;> cases b : (ng (itN k n) && decide (0 < rg (itN k n)))
          · rcases Nat.eq_zero_or_pos (rg n) with z | z
            · exact steps_zero n k w hn h (by omega) (by omega) z b
            · exact steps_go_false n k w hn h (by omega) i1 a b z
          · exact steps_turn_false n k w hn h (by omega) (by omega) a b
          · exact steps_turn_true n k w hn h (by omega) (by omega) a b
          · exact steps_go_true n k w hn h (by omega) i1 a b (by simp at a; exact a.2)
end Go.Proofs.Ytmnnlchnobbogaa.Fb
