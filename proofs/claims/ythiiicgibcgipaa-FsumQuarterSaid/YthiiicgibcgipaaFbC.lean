/- Contracts of Class of the packages fbits and scarpref1, and of math.Abs and math.IsInf(x, 0): what each returns, for every number. -/
import Derived.Test.YthiiicgibcgipaaFbA
import Derived.Test.YthiiicgibcgipaaFlG
namespace Go.Proofs.Ythiiicgibcgipaa.Fb
set_option linter.unusedSimpArgs false
set_option linter.unusedVariables false
open Go.RowKit Fl

attribute [local go_sem] and_sgn andNot_sgn xor_sgn xor_all run_neg_float u64_unsigned
theorem abs_any (x : Nat) (w : World) (hx : lt64 x) :
    Calls Try.prog 30 #[.float .f64 x] w fun e w' => e = .returned (.float .f64 (rg x)) ∧ w = w' := by
  go_enter Try.func30, Try.ntmps30
  go_wp2
  go_ret
  exact ⟨rfl, rfl⟩
theorem isinf_any (x : Nat) (w : World) (hx : lt64 x) :
    Calls Try.prog 49 #[.float .f64 x, .int .i64 0] w fun e w' => e = .returned (.bool (infB x)) ∧ w = w' := by
  go_enter Try.func49, Try.ntmps49
  go_wp2_with (go_at_call 30; refine (abs_any _ _ hx).mono ?_; rintro e w' ⟨rfl, rfl⟩)
  go_ret
  exact ⟨ret_bool (inf_test x), rfl⟩
theorem class_ways (x : Nat) : 9218868437227405312 < rg x ∨ (rg x ≤ 9218868437227405312 ∧ (rg x = 0 ∨ (0 < rg x ∧ rg x < 4503599627370496) ∨ rg x = 9218868437227405312 ∨ (4503599627370496 ≤ rg x ∧ rg x < 9218868437227405312))) := by omega
set_option maxHeartbeats 400000 in
theorem class_zero_true (x : Nat) (w : World) (hx : lt64 x) (h : rg x = 0) (hs : ng x = true) :
    Calls Try.prog 39 #[.float .f64 x] w fun e w' => e = .returned (.int .i64 5) ∧ w = w' := by
  have hn : rg x ≤ 9218868437227405312 := by omega
  obtain ⟨s1, s2⟩ := sgn_yes hs
  have h1 := t_ne_num hn
  have r3 : (((rg x : Nat) : Int) == 0) = true := beq_iff_eq.2 (by omega)
  have r4 : decide (((rg x : Nat) : Int) < 4503599627370496) = true := decide_eq_true (by omega)
  have r5 : infB x = false := decide_eq_false (by omega)
  clear h hs hn
  go_enter Try.func39, Try.ntmps39
  go_wp2_with (go_at_call 49; refine (isinf_any _ _ hx).mono ?_; rintro e w' ⟨rfl, rfl⟩)
  go_ret
  exact ⟨rfl, rfl⟩
set_option maxHeartbeats 400000 in
theorem class_zero_false (x : Nat) (w : World) (hx : lt64 x) (h : rg x = 0) (hs : ng x = false) :
    Calls Try.prog 39 #[.float .f64 x] w fun e w' => e = .returned (.int .i64 6) ∧ w = w' := by
  have hn : rg x ≤ 9218868437227405312 := by omega
  obtain ⟨s1, s2⟩ := sgn_no hs
  have h1 := t_ne_num hn
  have r3 : (((rg x : Nat) : Int) == 0) = true := beq_iff_eq.2 (by omega)
  have r4 : decide (((rg x : Nat) : Int) < 4503599627370496) = true := decide_eq_true (by omega)
  have r5 : infB x = false := decide_eq_false (by omega)
  clear h hs hn
  go_enter Try.func39, Try.ntmps39
  go_wp2_with (go_at_call 49; refine (isinf_any _ _ hx).mono ?_; rintro e w' ⟨rfl, rfl⟩)
  go_ret
  exact ⟨rfl, rfl⟩
set_option maxHeartbeats 400000 in
theorem class_sub_true (x : Nat) (w : World) (hx : lt64 x) (h : 0 < rg x ∧ rg x < 4503599627370496) (hs : ng x = true) :
    Calls Try.prog 39 #[.float .f64 x] w fun e w' => e = .returned (.int .i64 4) ∧ w = w' := by
  have hn : rg x ≤ 9218868437227405312 := by omega
  obtain ⟨s1, s2⟩ := sgn_yes hs
  have h1 := t_ne_num hn
  have r3 : (((rg x : Nat) : Int) == 0) = false := beq_eq_false_iff_ne.2 (by omega)
  have r4 : decide (((rg x : Nat) : Int) < 4503599627370496) = true := decide_eq_true (by omega)
  have r5 : infB x = false := decide_eq_false (by omega)
  clear h hs hn
  go_enter Try.func39, Try.ntmps39
  go_wp2_with (go_at_call 49; refine (isinf_any _ _ hx).mono ?_; rintro e w' ⟨rfl, rfl⟩)
  go_ret
  exact ⟨rfl, rfl⟩
set_option maxHeartbeats 400000 in
theorem class_sub_false (x : Nat) (w : World) (hx : lt64 x) (h : 0 < rg x ∧ rg x < 4503599627370496) (hs : ng x = false) :
    Calls Try.prog 39 #[.float .f64 x] w fun e w' => e = .returned (.int .i64 7) ∧ w = w' := by
  have hn : rg x ≤ 9218868437227405312 := by omega
  obtain ⟨s1, s2⟩ := sgn_no hs
  have h1 := t_ne_num hn
  have r3 : (((rg x : Nat) : Int) == 0) = false := beq_eq_false_iff_ne.2 (by omega)
  have r4 : decide (((rg x : Nat) : Int) < 4503599627370496) = true := decide_eq_true (by omega)
  have r5 : infB x = false := decide_eq_false (by omega)
  clear h hs hn
  go_enter Try.func39, Try.ntmps39
  go_wp2_with (go_at_call 49; refine (isinf_any _ _ hx).mono ?_; rintro e w' ⟨rfl, rfl⟩)
  go_ret
  exact ⟨rfl, rfl⟩
set_option maxHeartbeats 400000 in
theorem class_inf_true (x : Nat) (w : World) (hx : lt64 x) (h : rg x = 9218868437227405312) (hs : ng x = true) :
    Calls Try.prog 39 #[.float .f64 x] w fun e w' => e = .returned (.int .i64 2) ∧ w = w' := by
  have hn : rg x ≤ 9218868437227405312 := by omega
  obtain ⟨s1, s2⟩ := sgn_yes hs
  have h1 := t_ne_num hn
  have r3 : (((rg x : Nat) : Int) == 0) = false := beq_eq_false_iff_ne.2 (by omega)
  have r4 : decide (((rg x : Nat) : Int) < 4503599627370496) = false := decide_eq_false (by omega)
  have r5 : infB x = true := decide_eq_true (by omega)
  clear h hs hn
  go_enter Try.func39, Try.ntmps39
  go_wp2_with (go_at_call 49; refine (isinf_any _ _ hx).mono ?_; rintro e w' ⟨rfl, rfl⟩)
  go_ret
  exact ⟨rfl, rfl⟩
set_option maxHeartbeats 400000 in
theorem class_inf_false (x : Nat) (w : World) (hx : lt64 x) (h : rg x = 9218868437227405312) (hs : ng x = false) :
    Calls Try.prog 39 #[.float .f64 x] w fun e w' => e = .returned (.int .i64 9) ∧ w = w' := by
  have hn : rg x ≤ 9218868437227405312 := by omega
  obtain ⟨s1, s2⟩ := sgn_no hs
  have h1 := t_ne_num hn
  have r3 : (((rg x : Nat) : Int) == 0) = false := beq_eq_false_iff_ne.2 (by omega)
  have r4 : decide (((rg x : Nat) : Int) < 4503599627370496) = false := decide_eq_false (by omega)
  have r5 : infB x = true := decide_eq_true (by omega)
  clear h hs hn
  go_enter Try.func39, Try.ntmps39
  go_wp2_with (go_at_call 49; refine (isinf_any _ _ hx).mono ?_; rintro e w' ⟨rfl, rfl⟩)
  go_ret
  exact ⟨rfl, rfl⟩
set_option maxHeartbeats 400000 in
theorem class_num_true (x : Nat) (w : World) (hx : lt64 x) (h : 4503599627370496 ≤ rg x ∧ rg x < 9218868437227405312) (hs : ng x = true) :
    Calls Try.prog 39 #[.float .f64 x] w fun e w' => e = .returned (.int .i64 3) ∧ w = w' := by
  have hn : rg x ≤ 9218868437227405312 := by omega
  obtain ⟨s1, s2⟩ := sgn_yes hs
  have h1 := t_ne_num hn
  have r3 : (((rg x : Nat) : Int) == 0) = false := beq_eq_false_iff_ne.2 (by omega)
  have r4 : decide (((rg x : Nat) : Int) < 4503599627370496) = false := decide_eq_false (by omega)
  have r5 : infB x = false := decide_eq_false (by omega)
  clear h hs hn
  go_enter Try.func39, Try.ntmps39
  go_wp2_with (go_at_call 49; refine (isinf_any _ _ hx).mono ?_; rintro e w' ⟨rfl, rfl⟩)
  go_ret
  exact ⟨rfl, rfl⟩
set_option maxHeartbeats 400000 in
theorem class_num_false (x : Nat) (w : World) (hx : lt64 x) (h : 4503599627370496 ≤ rg x ∧ rg x < 9218868437227405312) (hs : ng x = false) :
    Calls Try.prog 39 #[.float .f64 x] w fun e w' => e = .returned (.int .i64 8) ∧ w = w' := by
  have hn : rg x ≤ 9218868437227405312 := by omega
  obtain ⟨s1, s2⟩ := sgn_no hs
  have h1 := t_ne_num hn
  have r3 : (((rg x : Nat) : Int) == 0) = false := beq_eq_false_iff_ne.2 (by omega)
  have r4 : decide (((rg x : Nat) : Int) < 4503599627370496) = false := decide_eq_false (by omega)
  have r5 : infB x = false := decide_eq_false (by omega)
  clear h hs hn
  go_enter Try.func39, Try.ntmps39
  go_wp2_with (go_at_call 49; refine (isinf_any _ _ hx).mono ?_; rintro e w' ⟨rfl, rfl⟩)
  go_ret
  exact ⟨rfl, rfl⟩
theorem class_nan (x : Nat) (w : World) (hx : lt64 x) (h : 9218868437227405312 < rg x) :
    Calls Try.prog 39 #[.float .f64 x] w fun e w' => e = .returned (.int .i64 1) ∧ w = w' := by
  have h1 := t_ne_nan h
  clear h
  go_enter Try.func39, Try.ntmps39
  go_wp2_with fail
  go_ret
  exact ⟨rfl, rfl⟩
theorem class_any (x : Nat) (w : World) (hx : lt64 x) :
    Calls Try.prog 39 #[.float .f64 x] w fun e w' => e = .returned (.int .i64 (classV x)) ∧ w = w' := by
  rcases class_ways x with h | ⟨h0, h | h | h | h⟩
  · rw [show classV x = 1 by unfold classV; rw [if_pos h]]; exact class_nan x w hx h
  · cases hs : ng x
    · rw [show classV x = 6 by unfold classV; rw [hs]; simp only [if_true, if_false, Bool.false_eq_true]; repeat (first | rw [if_pos (by omega)] | rw [if_neg (by omega)])]; exact class_zero_false x w hx h hs
    · rw [show classV x = 5 by unfold classV; rw [hs]; simp only [if_true, if_false, Bool.false_eq_true]; repeat (first | rw [if_pos (by omega)] | rw [if_neg (by omega)])]; exact class_zero_true x w hx h hs
  · cases hs : ng x
    · rw [show classV x = 7 by unfold classV; rw [hs]; simp only [if_true, if_false, Bool.false_eq_true]; repeat (first | rw [if_pos (by omega)] | rw [if_neg (by omega)])]; exact class_sub_false x w hx h hs
    · rw [show classV x = 4 by unfold classV; rw [hs]; simp only [if_true, if_false, Bool.false_eq_true]; repeat (first | rw [if_pos (by omega)] | rw [if_neg (by omega)])]; exact class_sub_true x w hx h hs
  · cases hs : ng x
    · rw [show classV x = 9 by unfold classV; rw [hs]; simp only [if_true, if_false, Bool.false_eq_true]; repeat (first | rw [if_pos (by omega)] | rw [if_neg (by omega)])]; exact class_inf_false x w hx h hs
    · rw [show classV x = 2 by unfold classV; rw [hs]; simp only [if_true, if_false, Bool.false_eq_true]; repeat (first | rw [if_pos (by omega)] | rw [if_neg (by omega)])]; exact class_inf_true x w hx h hs
  · cases hs : ng x
    · rw [show classV x = 8 by unfold classV; rw [hs]; simp only [if_true, if_false, Bool.false_eq_true]; repeat (first | rw [if_pos (by omega)] | rw [if_neg (by omega)])]; exact class_num_false x w hx h hs
    · rw [show classV x = 3 by unfold classV; rw [hs]; simp only [if_true, if_false, Bool.false_eq_true]; repeat (first | rw [if_pos (by omega)] | rw [if_neg (by omega)])]; exact class_num_true x w hx h hs
set_option maxHeartbeats 400000 in
theorem rclass_zero_true (x : Nat) (w : World) (hx : lt64 x) (h : rg x = 0) (hs : ng x = true) :
    Calls Try.prog 16 #[.float .f64 x] w fun e w' => e = .returned (.int .i64 5) ∧ w = w' := by
  have hn : rg x ≤ 9218868437227405312 := by omega
  obtain ⟨s1, s2⟩ := sgn_yes hs
  have hc := cn_num hn
  have r1 : decide (9218868437227405312 < ((rg x : Nat) : Int)) = false := decide_eq_false (by omega)
  have r2 : (((rg x : Nat) : Int) == 9218868437227405312) = false := beq_eq_false_iff_ne.2 (by omega)
  have r3 : (((rg x : Nat) : Int) == 0) = true := beq_iff_eq.2 (by omega)
  have r4 : decide (((rg x : Nat) : Int) < 4503599627370496) = true := decide_eq_true (by omega)
  have HX := hx
  clear h hs hn
  go_enter Try.func16, Try.ntmps16
  go_wp2_with fail
  refine (rbits_any _ _).mono ?_
  rintro e w' ⟨rfl, rfl⟩
  rw [hc]
  clear hc
  go_wp2_with fail
  go_ret
  exact ⟨rfl, rfl⟩
set_option maxHeartbeats 400000 in
theorem rclass_zero_false (x : Nat) (w : World) (hx : lt64 x) (h : rg x = 0) (hs : ng x = false) :
    Calls Try.prog 16 #[.float .f64 x] w fun e w' => e = .returned (.int .i64 6) ∧ w = w' := by
  have hn : rg x ≤ 9218868437227405312 := by omega
  obtain ⟨s1, s2⟩ := sgn_no hs
  have hc := cn_num hn
  have r1 : decide (9218868437227405312 < ((rg x : Nat) : Int)) = false := decide_eq_false (by omega)
  have r2 : (((rg x : Nat) : Int) == 9218868437227405312) = false := beq_eq_false_iff_ne.2 (by omega)
  have r3 : (((rg x : Nat) : Int) == 0) = true := beq_iff_eq.2 (by omega)
  have r4 : decide (((rg x : Nat) : Int) < 4503599627370496) = true := decide_eq_true (by omega)
  have HX := hx
  clear h hs hn
  go_enter Try.func16, Try.ntmps16
  go_wp2_with fail
  refine (rbits_any _ _).mono ?_
  rintro e w' ⟨rfl, rfl⟩
  rw [hc]
  clear hc
  go_wp2_with fail
  go_ret
  exact ⟨rfl, rfl⟩
set_option maxHeartbeats 400000 in
theorem rclass_sub_true (x : Nat) (w : World) (hx : lt64 x) (h : 0 < rg x ∧ rg x < 4503599627370496) (hs : ng x = true) :
    Calls Try.prog 16 #[.float .f64 x] w fun e w' => e = .returned (.int .i64 4) ∧ w = w' := by
  have hn : rg x ≤ 9218868437227405312 := by omega
  obtain ⟨s1, s2⟩ := sgn_yes hs
  have hc := cn_num hn
  have r1 : decide (9218868437227405312 < ((rg x : Nat) : Int)) = false := decide_eq_false (by omega)
  have r2 : (((rg x : Nat) : Int) == 9218868437227405312) = false := beq_eq_false_iff_ne.2 (by omega)
  have r3 : (((rg x : Nat) : Int) == 0) = false := beq_eq_false_iff_ne.2 (by omega)
  have r4 : decide (((rg x : Nat) : Int) < 4503599627370496) = true := decide_eq_true (by omega)
  have HX := hx
  clear h hs hn
  go_enter Try.func16, Try.ntmps16
  go_wp2_with fail
  refine (rbits_any _ _).mono ?_
  rintro e w' ⟨rfl, rfl⟩
  rw [hc]
  clear hc
  go_wp2_with fail
  go_ret
  exact ⟨rfl, rfl⟩
set_option maxHeartbeats 400000 in
theorem rclass_sub_false (x : Nat) (w : World) (hx : lt64 x) (h : 0 < rg x ∧ rg x < 4503599627370496) (hs : ng x = false) :
    Calls Try.prog 16 #[.float .f64 x] w fun e w' => e = .returned (.int .i64 7) ∧ w = w' := by
  have hn : rg x ≤ 9218868437227405312 := by omega
  obtain ⟨s1, s2⟩ := sgn_no hs
  have hc := cn_num hn
  have r1 : decide (9218868437227405312 < ((rg x : Nat) : Int)) = false := decide_eq_false (by omega)
  have r2 : (((rg x : Nat) : Int) == 9218868437227405312) = false := beq_eq_false_iff_ne.2 (by omega)
  have r3 : (((rg x : Nat) : Int) == 0) = false := beq_eq_false_iff_ne.2 (by omega)
  have r4 : decide (((rg x : Nat) : Int) < 4503599627370496) = true := decide_eq_true (by omega)
  have HX := hx
  clear h hs hn
  go_enter Try.func16, Try.ntmps16
  go_wp2_with fail
  refine (rbits_any _ _).mono ?_
  rintro e w' ⟨rfl, rfl⟩
  rw [hc]
  clear hc
  go_wp2_with fail
  go_ret
  exact ⟨rfl, rfl⟩
set_option maxHeartbeats 400000 in
theorem rclass_inf_true (x : Nat) (w : World) (hx : lt64 x) (h : rg x = 9218868437227405312) (hs : ng x = true) :
    Calls Try.prog 16 #[.float .f64 x] w fun e w' => e = .returned (.int .i64 2) ∧ w = w' := by
  have hn : rg x ≤ 9218868437227405312 := by omega
  obtain ⟨s1, s2⟩ := sgn_yes hs
  have hc := cn_num hn
  have r1 : decide (9218868437227405312 < ((rg x : Nat) : Int)) = false := decide_eq_false (by omega)
  have r2 : (((rg x : Nat) : Int) == 9218868437227405312) = true := beq_iff_eq.2 (by omega)
  have r3 : (((rg x : Nat) : Int) == 0) = false := beq_eq_false_iff_ne.2 (by omega)
  have r4 : decide (((rg x : Nat) : Int) < 4503599627370496) = false := decide_eq_false (by omega)
  have HX := hx
  clear h hs hn
  go_enter Try.func16, Try.ntmps16
  go_wp2_with fail
  refine (rbits_any _ _).mono ?_
  rintro e w' ⟨rfl, rfl⟩
  rw [hc]
  clear hc
  go_wp2_with fail
  go_ret
  exact ⟨rfl, rfl⟩
set_option maxHeartbeats 400000 in
theorem rclass_inf_false (x : Nat) (w : World) (hx : lt64 x) (h : rg x = 9218868437227405312) (hs : ng x = false) :
    Calls Try.prog 16 #[.float .f64 x] w fun e w' => e = .returned (.int .i64 9) ∧ w = w' := by
  have hn : rg x ≤ 9218868437227405312 := by omega
  obtain ⟨s1, s2⟩ := sgn_no hs
  have hc := cn_num hn
  have r1 : decide (9218868437227405312 < ((rg x : Nat) : Int)) = false := decide_eq_false (by omega)
  have r2 : (((rg x : Nat) : Int) == 9218868437227405312) = true := beq_iff_eq.2 (by omega)
  have r3 : (((rg x : Nat) : Int) == 0) = false := beq_eq_false_iff_ne.2 (by omega)
  have r4 : decide (((rg x : Nat) : Int) < 4503599627370496) = false := decide_eq_false (by omega)
  have HX := hx
  clear h hs hn
  go_enter Try.func16, Try.ntmps16
  go_wp2_with fail
  refine (rbits_any _ _).mono ?_
  rintro e w' ⟨rfl, rfl⟩
  rw [hc]
  clear hc
  go_wp2_with fail
  go_ret
  exact ⟨rfl, rfl⟩
set_option maxHeartbeats 400000 in
theorem rclass_num_true (x : Nat) (w : World) (hx : lt64 x) (h : 4503599627370496 ≤ rg x ∧ rg x < 9218868437227405312) (hs : ng x = true) :
    Calls Try.prog 16 #[.float .f64 x] w fun e w' => e = .returned (.int .i64 3) ∧ w = w' := by
  have hn : rg x ≤ 9218868437227405312 := by omega
  obtain ⟨s1, s2⟩ := sgn_yes hs
  have hc := cn_num hn
  have r1 : decide (9218868437227405312 < ((rg x : Nat) : Int)) = false := decide_eq_false (by omega)
  have r2 : (((rg x : Nat) : Int) == 9218868437227405312) = false := beq_eq_false_iff_ne.2 (by omega)
  have r3 : (((rg x : Nat) : Int) == 0) = false := beq_eq_false_iff_ne.2 (by omega)
  have r4 : decide (((rg x : Nat) : Int) < 4503599627370496) = false := decide_eq_false (by omega)
  have HX := hx
  clear h hs hn
  go_enter Try.func16, Try.ntmps16
  go_wp2_with fail
  refine (rbits_any _ _).mono ?_
  rintro e w' ⟨rfl, rfl⟩
  rw [hc]
  clear hc
  go_wp2_with fail
  go_ret
  exact ⟨rfl, rfl⟩
set_option maxHeartbeats 400000 in
theorem rclass_num_false (x : Nat) (w : World) (hx : lt64 x) (h : 4503599627370496 ≤ rg x ∧ rg x < 9218868437227405312) (hs : ng x = false) :
    Calls Try.prog 16 #[.float .f64 x] w fun e w' => e = .returned (.int .i64 8) ∧ w = w' := by
  have hn : rg x ≤ 9218868437227405312 := by omega
  obtain ⟨s1, s2⟩ := sgn_no hs
  have hc := cn_num hn
  have r1 : decide (9218868437227405312 < ((rg x : Nat) : Int)) = false := decide_eq_false (by omega)
  have r2 : (((rg x : Nat) : Int) == 9218868437227405312) = false := beq_eq_false_iff_ne.2 (by omega)
  have r3 : (((rg x : Nat) : Int) == 0) = false := beq_eq_false_iff_ne.2 (by omega)
  have r4 : decide (((rg x : Nat) : Int) < 4503599627370496) = false := decide_eq_false (by omega)
  have HX := hx
  clear h hs hn
  go_enter Try.func16, Try.ntmps16
  go_wp2_with fail
  refine (rbits_any _ _).mono ?_
  rintro e w' ⟨rfl, rfl⟩
  rw [hc]
  clear hc
  go_wp2_with fail
  go_ret
  exact ⟨rfl, rfl⟩
theorem rclass_nan (x : Nat) (w : World) (hx : lt64 x) (h : 9218868437227405312 < rg x) :
    Calls Try.prog 16 #[.float .f64 x] w fun e w' => e = .returned (.int .i64 1) ∧ w = w' := by
  have hL := lt64_cn hx
  have r1 : decide (9218868437227405312 < ((rg (cn x) : Nat) : Int)) = true := decide_eq_true (by have := (cn_isnan x).2 h; omega)
  clear h hx
  go_enter Try.func16, Try.ntmps16
  go_wp2_with (go_at_call 32; refine (rbits_any _ _).mono ?_; rintro e w' ⟨rfl, rfl⟩)
  go_ret
  exact ⟨rfl, rfl⟩
theorem rclass_any (x : Nat) (w : World) (hx : lt64 x) :
    Calls Try.prog 16 #[.float .f64 x] w fun e w' => e = .returned (.int .i64 (classV x)) ∧ w = w' := by
  rcases class_ways x with h | ⟨h0, h | h | h | h⟩
  · rw [show classV x = 1 by unfold classV; rw [if_pos h]]; exact rclass_nan x w hx h
  · cases hs : ng x
    · rw [show classV x = 6 by unfold classV; rw [hs]; simp only [if_true, if_false, Bool.false_eq_true]; repeat (first | rw [if_pos (by omega)] | rw [if_neg (by omega)])]; exact rclass_zero_false x w hx h hs
    · rw [show classV x = 5 by unfold classV; rw [hs]; simp only [if_true, if_false, Bool.false_eq_true]; repeat (first | rw [if_pos (by omega)] | rw [if_neg (by omega)])]; exact rclass_zero_true x w hx h hs
  · cases hs : ng x
    · rw [show classV x = 7 by unfold classV; rw [hs]; simp only [if_true, if_false, Bool.false_eq_true]; repeat (first | rw [if_pos (by omega)] | rw [if_neg (by omega)])]; exact rclass_sub_false x w hx h hs
    · rw [show classV x = 4 by unfold classV; rw [hs]; simp only [if_true, if_false, Bool.false_eq_true]; repeat (first | rw [if_pos (by omega)] | rw [if_neg (by omega)])]; exact rclass_sub_true x w hx h hs
  · cases hs : ng x
    · rw [show classV x = 9 by unfold classV; rw [hs]; simp only [if_true, if_false, Bool.false_eq_true]; repeat (first | rw [if_pos (by omega)] | rw [if_neg (by omega)])]; exact rclass_inf_false x w hx h hs
    · rw [show classV x = 2 by unfold classV; rw [hs]; simp only [if_true, if_false, Bool.false_eq_true]; repeat (first | rw [if_pos (by omega)] | rw [if_neg (by omega)])]; exact rclass_inf_true x w hx h hs
  · cases hs : ng x
    · rw [show classV x = 8 by unfold classV; rw [hs]; simp only [if_true, if_false, Bool.false_eq_true]; repeat (first | rw [if_pos (by omega)] | rw [if_neg (by omega)])]; exact rclass_num_false x w hx h hs
    · rw [show classV x = 3 by unfold classV; rw [hs]; simp only [if_true, if_false, Bool.false_eq_true]; repeat (first | rw [if_pos (by omega)] | rw [if_neg (by omega)])]; exact rclass_num_true x w hx h hs
end Go.Proofs.Ythiiicgibcgipaa.Fb
