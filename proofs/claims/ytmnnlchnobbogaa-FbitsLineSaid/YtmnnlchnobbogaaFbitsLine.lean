/- FbitsLine: the walk. For every two numbers the law returns true, and nothing that was there is written. No condition. -/
import Derived.Test.YtmnnlchnobbogaaFbL
namespace Go.Proofs.Ytmnnlchnobbogaa.Fb
set_option linter.unusedSimpArgs false
set_option linter.unusedVariables false
open Go.RowKit Fl
attribute [local go_sem] and_sgn andNot_sgn xor_sgn xor_all run_neg_float u64_unsigned

theorem key_num {x : Nat} (hx : lt64 x) (h : rg x ≤ 9218868437227405312) : keyV x = if ng x then 9223372036854775807 - rg x else 9223372036854775808 + rg x := by
  unfold keyV; rw [cn_num h, keyW_val hx]
theorem key_nan {x : Nat} (h : 9218868437227405312 < rg x) : keyV x = 18444492273895866368 := by
  unfold keyV; rw [cn_nan h, keyW_val (by show (9221120237041090560 : Nat) < 18446744073709551616; omega)]; decide
theorem key_lt {x y : Nat} (hx : lt64 x) (hy : lt64 y) (h : rg x ≤ 9218868437227405312) (k : rg y ≤ 9218868437227405312) (hl : sk x < sk y) : keyV x < keyV y := by
  rw [key_num hx h, key_num hy k]
  unfold sk at hl
  revert hl
  cases ng x <;> cases ng y <;> simp only [if_true, if_false, Bool.false_eq_true] <;> intro hl <;> omega
theorem key_below {x y : Nat} (hx : lt64 x) (h : rg x ≤ 9218868437227405312) (k : 9218868437227405312 < rg y) : keyV x < keyV y := by
  rw [key_num hx h, key_nan k]
  cases ng x <;> simp <;> omega
theorem key_same {x y : Nat} (hx : lt64 x) (hy : lt64 y) : ((keyV x : Int) == (keyV y : Int)) = sameB x y := by
  unfold sameB keyV
  rw [Bool.eq_iff_iff]
  simp only [beq_iff_eq]
  rw [show ((keyW (cn x) : Int) = (keyW (cn y) : Int)) ↔ keyW (cn x) = keyW (cn y) by omega]
  exact key_inj (lt64_cn hx) (lt64_cn hy)
set_option maxHeartbeats 1000000 in
theorem line_lt (x y : Nat) (w : World) (hx : lt64 x) (hy : lt64 y) (h : rg x ≤ 9218868437227405312 ∧ rg y ≤ 9218868437227405312 ∧ sk x < sk y) :
    Calls Try.prog 4 #[.float .f64 x, .float .f64 y] w fun e w' => e = .returned (.bool true) ∧ Below w.heap.size w w' := by
  have HK := key_lt hx hy h.1 h.2.1 h.2.2
  have tlt : (FloatKind.f64.format.order x y == some .lt) = true := by rw [fmt64, o_lt, Bool.eq_iff_iff]; simp only [Bool.and_eq_true, decide_eq_true_eq, Bool.false_eq_true, iff_false, iff_true]; omega
  have k1 : decide (keyV x < keyV y) = true := decide_eq_true HK
  have k2 : decide ((keyV x : Int) < (keyV y : Int)) = true := decide_eq_true (by omega)
  clear HK
  clear h
  go_enter Try.func4, Try.ntmps4
  go_wp2_with fail
  refine (key_any _ _ hx).mono ?_
  rintro e w' ⟨rfl, rfl⟩
  go_wp2_with fail
  refine (key_any _ _ hy).mono ?_
  rintro e w' ⟨rfl, rfl⟩
  go_wp2_with fail
  refine (awake_any _).mono ?_
  rintro e w' ⟨rfl, rfl⟩
  go_wp2_with fail
  go_ret
  exact ⟨rfl, Below.refl _ _⟩
set_option maxHeartbeats 1000000 in
theorem line_gt (x y : Nat) (w : World) (hx : lt64 x) (hy : lt64 y) (h : rg x ≤ 9218868437227405312 ∧ rg y ≤ 9218868437227405312 ∧ sk y < sk x) :
    Calls Try.prog 4 #[.float .f64 x, .float .f64 y] w fun e w' => e = .returned (.bool true) ∧ Below w.heap.size w w' := by
  have HK := key_lt hy hx h.2.1 h.1 h.2.2
  have tlt : (FloatKind.f64.format.order x y == some .lt) = false := by rw [fmt64, o_lt, Bool.eq_iff_iff]; simp only [Bool.and_eq_true, decide_eq_true_eq, Bool.false_eq_true, iff_false, iff_true]; omega
  have tgt : (FloatKind.f64.format.order x y == some .gt) = true := by rw [fmt64, o_gt, Bool.eq_iff_iff]; simp only [Bool.and_eq_true, decide_eq_true_eq, Bool.false_eq_true, iff_false, iff_true]; omega
  have k1 : decide (keyV y < keyV x) = true := decide_eq_true HK
  have k2 : decide ((keyV y : Int) < (keyV x : Int)) = true := decide_eq_true (by omega)
  clear HK
  clear h
  go_enter Try.func4, Try.ntmps4
  go_wp2_with fail
  refine (key_any _ _ hx).mono ?_
  rintro e w' ⟨rfl, rfl⟩
  go_wp2_with fail
  refine (key_any _ _ hy).mono ?_
  rintro e w' ⟨rfl, rfl⟩
  go_wp2_with fail
  refine (awake_any _).mono ?_
  rintro e w' ⟨rfl, rfl⟩
  go_wp2_with fail
  go_ret
  exact ⟨rfl, Below.refl _ _⟩
set_option maxHeartbeats 1000000 in
theorem line_nn (x y : Nat) (w : World) (hx : lt64 x) (hy : lt64 y) (h : 9218868437227405312 < rg x ∧ 9218868437227405312 < rg y) :
    Calls Try.prog 4 #[.float .f64 x, .float .f64 y] w fun e w' => e = .returned (.bool true) ∧ Below w.heap.size w w' := by
  have HK := (key_nan h.1).trans (key_nan h.2).symm
  have tlt : (FloatKind.f64.format.order x y == some .lt) = false := by rw [fmt64, o_lt, Bool.eq_iff_iff]; simp only [Bool.and_eq_true, decide_eq_true_eq, Bool.false_eq_true, iff_false, iff_true]; omega
  have tgt : (FloatKind.f64.format.order x y == some .gt) = false := by rw [fmt64, o_gt, Bool.eq_iff_iff]; simp only [Bool.and_eq_true, decide_eq_true_eq, Bool.false_eq_true, iff_false, iff_true]; omega
  have n1 := t_ne_nan h.1
  have n2 := t_ne_nan h.2
  have k1 : ((keyV x : Int) == (keyV y : Int)) = true := by rw [HK]; exact beq_iff_eq.2 rfl
  clear HK
  clear h
  go_enter Try.func4, Try.ntmps4
  go_wp2_with fail
  refine (key_any _ _ hx).mono ?_
  rintro e w' ⟨rfl, rfl⟩
  go_wp2_with fail
  refine (key_any _ _ hy).mono ?_
  rintro e w' ⟨rfl, rfl⟩
  go_wp2_with fail
  refine (awake_any _).mono ?_
  rintro e w' ⟨rfl, rfl⟩
  go_wp2_with fail
  go_ret
  exact ⟨rfl, Below.refl _ _⟩
set_option maxHeartbeats 1000000 in
theorem line_nx (x y : Nat) (w : World) (hx : lt64 x) (hy : lt64 y) (h : 9218868437227405312 < rg x ∧ rg y ≤ 9218868437227405312) :
    Calls Try.prog 4 #[.float .f64 x, .float .f64 y] w fun e w' => e = .returned (.bool true) ∧ Below w.heap.size w w' := by
  have HK := key_below hy h.2 h.1
  have tlt : (FloatKind.f64.format.order x y == some .lt) = false := by rw [fmt64, o_lt, Bool.eq_iff_iff]; simp only [Bool.and_eq_true, decide_eq_true_eq, Bool.false_eq_true, iff_false, iff_true]; omega
  have tgt : (FloatKind.f64.format.order x y == some .gt) = false := by rw [fmt64, o_gt, Bool.eq_iff_iff]; simp only [Bool.and_eq_true, decide_eq_true_eq, Bool.false_eq_true, iff_false, iff_true]; omega
  have n1 := t_ne_nan h.1
  have n2 := t_ne_num h.2
  have k1 : decide (keyV y < keyV x) = true := decide_eq_true HK
  have k2 : decide ((keyV y : Int) < (keyV x : Int)) = true := decide_eq_true (by omega)
  clear HK
  clear h
  go_enter Try.func4, Try.ntmps4
  go_wp2_with fail
  refine (key_any _ _ hx).mono ?_
  rintro e w' ⟨rfl, rfl⟩
  go_wp2_with fail
  refine (key_any _ _ hy).mono ?_
  rintro e w' ⟨rfl, rfl⟩
  go_wp2_with fail
  refine (awake_any _).mono ?_
  rintro e w' ⟨rfl, rfl⟩
  go_wp2_with fail
  go_ret
  exact ⟨rfl, Below.refl _ _⟩
set_option maxHeartbeats 1000000 in
theorem line_ny (x y : Nat) (w : World) (hx : lt64 x) (hy : lt64 y) (h : rg x ≤ 9218868437227405312 ∧ 9218868437227405312 < rg y) :
    Calls Try.prog 4 #[.float .f64 x, .float .f64 y] w fun e w' => e = .returned (.bool true) ∧ Below w.heap.size w w' := by
  have HK := key_below hx h.1 h.2
  have tlt : (FloatKind.f64.format.order x y == some .lt) = false := by rw [fmt64, o_lt, Bool.eq_iff_iff]; simp only [Bool.and_eq_true, decide_eq_true_eq, Bool.false_eq_true, iff_false, iff_true]; omega
  have tgt : (FloatKind.f64.format.order x y == some .gt) = false := by rw [fmt64, o_gt, Bool.eq_iff_iff]; simp only [Bool.and_eq_true, decide_eq_true_eq, Bool.false_eq_true, iff_false, iff_true]; omega
  have n1 := t_ne_num h.1
  have n2 := t_ne_nan h.2
  have k1 : decide (keyV x < keyV y) = true := decide_eq_true HK
  have k2 : decide ((keyV x : Int) < (keyV y : Int)) = true := decide_eq_true (by omega)
  clear HK
  clear h
  go_enter Try.func4, Try.ntmps4
  go_wp2_with fail
  refine (key_any _ _ hx).mono ?_
  rintro e w' ⟨rfl, rfl⟩
  go_wp2_with fail
  refine (key_any _ _ hy).mono ?_
  rintro e w' ⟨rfl, rfl⟩
  go_wp2_with fail
  refine (awake_any _).mono ?_
  rintro e w' ⟨rfl, rfl⟩
  go_wp2_with fail
  go_ret
  exact ⟨rfl, Below.refl _ _⟩
set_option maxHeartbeats 1000000 in
theorem line_eq (x y : Nat) (w : World) (hx : lt64 x) (hy : lt64 y) (h : rg x ≤ 9218868437227405312 ∧ rg y ≤ 9218868437227405312 ∧ sk x = sk y) :
    Calls Try.prog 4 #[.float .f64 x, .float .f64 y] w fun e w' => e = .returned (.bool true) ∧ Below w.heap.size w w' := by
  have tlt : (FloatKind.f64.format.order x y == some .lt) = false := by rw [fmt64, o_lt, Bool.eq_iff_iff]; simp only [Bool.and_eq_true, decide_eq_true_eq, Bool.false_eq_true, iff_false, iff_true]; omega
  have tgt : (FloatKind.f64.format.order x y == some .gt) = false := by rw [fmt64, o_gt, Bool.eq_iff_iff]; simp only [Bool.and_eq_true, decide_eq_true_eq, Bool.false_eq_true, iff_false, iff_true]; omega
  have n1 := t_ne_num h.1
  have n2 := t_ne_num h.2.1
  have k1 : (((keyV x : Int) == (keyV y : Int)) == sameB x y) = true := by rw [key_same hx hy]; exact beq_iff_eq.2 rfl
  clear h
  go_enter Try.func4, Try.ntmps4
  go_wp2_with fail
  refine (key_any _ _ hx).mono ?_
  rintro e w' ⟨rfl, rfl⟩
  go_wp2_with fail
  refine (key_any _ _ hy).mono ?_
  rintro e w' ⟨rfl, rfl⟩
  go_wp2_with fail
  refine (same_any _ _ _).mono ?_
  rintro e w' ⟨rfl, rfl⟩
  go_wp2_with fail
  refine (awake_any _).mono ?_
  rintro e w' ⟨rfl, rfl⟩
  go_wp2_with fail
  go_ret
  exact ⟨rfl, Below.refl _ _⟩
theorem line_walk (x y : Nat) (w : World) (h1 : (Lit.float .f64 x).wf = true) (h2 : (Lit.float .f64 y).wf = true) :
    Calls Try.prog 4 #[.float .f64 x, .float .f64 y] w fun e w' => e = .returned (.bool true) ∧ Below w.heap.size w w' := by
  have hx := lt64_of h1
  have hy := lt64_of h2
  rcases Nat.lt_or_ge 9218868437227405312 (rg x) with h | h
  · rcases Nat.lt_or_ge 9218868437227405312 (rg y) with k | k
    · exact line_nn x y w hx hy ⟨h, k⟩
    · exact line_nx x y w hx hy ⟨h, k⟩
  · rcases Nat.lt_or_ge 9218868437227405312 (rg y) with k | k
    · exact line_ny x y w hx hy ⟨h, k⟩
    · rcases Int.lt_trichotomy (sk x) (sk y) with g | g | g
      · exact line_lt x y w hx hy ⟨h, k, g⟩
      · exact line_eq x y w hx hy ⟨h, k, g⟩
      · exact line_gt x y w hx hy ⟨h, k, g⟩
end Go.Proofs.Ytmnnlchnobbogaa.Fb
