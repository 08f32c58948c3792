/- FbitsClass: the walk. For every 64 bits the law returns true, and nothing that was there is written. No condition. -/
import Derived.Test.YtmnnlchnobbogaaFbL
namespace Go.Proofs.Ytmnnlchnobbogaa.Fb
set_option linter.unusedSimpArgs false
set_option linter.unusedVariables false
open Go.RowKit Fl
attribute [local go_sem] and_sgn andNot_sgn xor_sgn xor_all run_neg_float u64_unsigned

theorem from_least (w : World) : Calls Try.prog 11 #[.int .u64 4503599627370496] w fun e w' => e = .returned (.float .f64 4503599627370496) ∧ w = w' :=
  (from_int 4503599627370496 w).mono fun _ _ ⟨he, hw⟩ => ⟨by rw [he, show cn (Int.toNat 4503599627370496) = 4503599627370496 by decide], hw⟩
/-- an operation that is valid gives just its word. -/
theorem fR_num {op : BinOp} {x y : Nat} (h : rg (fop op x y) ≤ 9218868437227405312) (w : World) : fR op x y w = fop op x y := by
  have h1 := cn_fR op x y w
  rcases Nat.lt_or_ge 9218868437227405312 (rg (fR op x y w)) with g | g
  · rw [cn_nan g] at h1
    rw [← h1, rg_C0] at h
    omega
  · rw [cn_num g] at h1
    exact h1
theorem fR_nan {op : BinOp} {x y : Nat} (h : fop op x y = 9221120237041090560) (w : World) : 9218868437227405312 < rg (fR op x y w) := by
  rw [← cn_isnan, cn_fR, h, rg_C0]
  omega
theorem sub_self {x : Nat} (h : rg x < 9218868437227405312) : fop .sub x x = 0 := by
  show (Ieee.double.sub x x).getD _ = 0
  rw [sub_add]
  obtain ⟨r, hr, hR⟩ := add_fin x (x ^^^ 9223372036854775808) h (by rw [neg_rg]; exact h)
  rw [neg_su, show su x + -su x = 0 by omega] at hr hR
  have : r = 0 := isR_at (by omega) (by omega) (by rw [un_zero]; rfl) hR
  rw [hr, this, if_pos rfl, neg_ng]
  cases ng x <;> rfl
theorem sub_inf {x : Nat} (h : rg x = 9218868437227405312) : fop .sub x x = 9221120237041090560 := by
  show (Ieee.double.sub x x).getD _ = _
  rw [sub_add, add_inf_inf _ _ h (by rw [neg_rg]; exact h), neg_ng]
  cases ng x <;> rfl
set_option maxHeartbeats 1000000 in
theorem cls_nan (v : Nat) (w : World) (hv : lt64 v) (h : 9218868437227405312 < rg v) :
    Calls Try.prog 5 #[.int .u64 v] w fun e w' => e = .returned (.bool true) ∧ Below w.heap.size w w' := by
  have n1 := t_ne_nan ((cn_isnan v).2 h)
  have HC := class_nan (cn v) w (lt64_cn hv) ((cn_isnan v).2 h)
  clear h
  go_enter Try.func5, Try.ntmps5
  go_wp2_with fail
  refine (from_any _ _).mono ?_
  rintro e w' ⟨rfl, rfl⟩
  go_wp2_with fail
  refine (HC).mono ?_
  rintro e w' ⟨rfl, rfl⟩
  go_wp2_with fail
  refine (from_least _).mono ?_
  rintro e w' ⟨rfl, rfl⟩
  go_wp2_with fail
  refine (awake_any _).mono ?_
  rintro e w' ⟨rfl, rfl⟩
  go_wp2_with fail
  go_ret
  exact ⟨rfl, ⟨rfl, rfl, rfl, Nat.le_refl _, fun _ _ => rfl⟩⟩
set_option maxHeartbeats 1000000 in
theorem cls_zero_true (v : Nat) (w : World) (hv : lt64 v) (h : rg v = 0) (hs : ng v = true) :
    Calls Try.prog 5 #[.int .u64 v] w fun e w' => e = .returned (.bool true) ∧ Below w.heap.size w w' := by
  have hf := from_num v w (by omega)
  have n1 := t_ne_num (show rg v ≤ 9218868437227405312 by omega)
  have sv : sk v = -(rg v : Int) := by unfold sk; rw [hs]; rfl
  have z0 : sk 0 = 0 := by decide
  have z1 : rg 0 = 0 := by decide
  have z2 : sk 4503599627370496 = 4503599627370496 := by decide
  have z3 : rg 4503599627370496 = 4503599627370496 := by decide
  have z4 : sk (flipV 4503599627370496) = -4503599627370496 := by rw [flip_sk, z2]
  have z5 : rg (flipV 4503599627370496) = 4503599627370496 := by rw [flip_rg, z3]
  have HC := class_zero_true v w hv h hs
  have e0 : (FloatKind.f64.format.order v 0 == some .eq) = true := by rw [fmt64, o_eq, Bool.eq_iff_iff]; simp only [Bool.and_eq_true, decide_eq_true_eq, Bool.false_eq_true, iff_false, iff_true, sv, z0, z1, z2, z3, z4, z5]; omega
  have s1 : sameB v 0 = false := by
    have hv' := mk_rg_ge hv hs
    unfold sameB; rw [cn_num (by omega), cn_num (by rw [z1]; omega)]; exact beq_eq_false_iff_ne.2 (by omega)
  have q1 : fop .quo 4607182418800017408 v = 18442240474082181120 := by
    show (Ieee.double.div 4607182418800017408 v).getD _ = _
    rw [div_zero _ _ (by decide) h, if_neg (by decide), hs]; decide
  have q2 : ∀ W : World, (FloatKind.f64.format.order (fR .quo 4607182418800017408 v W) 0 == some .lt) = true := fun W => by rw [fR_num (by rw [q1]; decide) W, q1]; decide +kernel
  clear q1
  clear sv z0 z1 z2 z3 z4 z5 h hs
  go_enter Try.func5, Try.ntmps5
  go_wp2_with fail
  refine (hf).mono ?_
  rintro e w' ⟨rfl, rfl⟩
  go_wp2_with fail
  refine (HC).mono ?_
  rintro e w' ⟨rfl, rfl⟩
  go_wp2_with fail
  refine (from_least _).mono ?_
  rintro e w' ⟨rfl, rfl⟩
  go_wp2_with fail
  refine (same_any _ _ _).mono ?_
  rintro e w' ⟨rfl, rfl⟩
  go_wp2_with fail
  refine (awake_any _).mono ?_
  rintro e w' ⟨rfl, rfl⟩
  go_wp2_with fail
  go_ret
  exact ⟨rfl, ⟨rfl, rfl, rfl, Nat.le_refl _, fun _ _ => rfl⟩⟩
set_option maxHeartbeats 1000000 in
theorem cls_zero_false (v : Nat) (w : World) (hv : lt64 v) (h : rg v = 0) (hs : ng v = false) :
    Calls Try.prog 5 #[.int .u64 v] w fun e w' => e = .returned (.bool true) ∧ Below w.heap.size w w' := by
  have hf := from_num v w (by omega)
  have n1 := t_ne_num (show rg v ≤ 9218868437227405312 by omega)
  have sv : sk v = (rg v : Int) := by unfold sk; rw [hs]; rfl
  have z0 : sk 0 = 0 := by decide
  have z1 : rg 0 = 0 := by decide
  have z2 : sk 4503599627370496 = 4503599627370496 := by decide
  have z3 : rg 4503599627370496 = 4503599627370496 := by decide
  have z4 : sk (flipV 4503599627370496) = -4503599627370496 := by rw [flip_sk, z2]
  have z5 : rg (flipV 4503599627370496) = 4503599627370496 := by rw [flip_rg, z3]
  have HC := class_zero_false v w hv h hs
  have e0 : (FloatKind.f64.format.order v 0 == some .eq) = true := by rw [fmt64, o_eq, Bool.eq_iff_iff]; simp only [Bool.and_eq_true, decide_eq_true_eq, Bool.false_eq_true, iff_false, iff_true, sv, z0, z1, z2, z3, z4, z5]; omega
  have s1 : sameB v 0 = true := by
    have hv' := mk_rg_lt hv hs
    exact sameB_yes (by rw [hv', h])
  clear sv z0 z1 z2 z3 z4 z5 h hs
  go_enter Try.func5, Try.ntmps5
  go_wp2_with fail
  refine (hf).mono ?_
  rintro e w' ⟨rfl, rfl⟩
  go_wp2_with fail
  refine (HC).mono ?_
  rintro e w' ⟨rfl, rfl⟩
  go_wp2_with fail
  refine (from_least _).mono ?_
  rintro e w' ⟨rfl, rfl⟩
  go_wp2_with fail
  refine (same_any _ _ _).mono ?_
  rintro e w' ⟨rfl, rfl⟩
  go_wp2_with fail
  refine (awake_any _).mono ?_
  rintro e w' ⟨rfl, rfl⟩
  go_wp2_with fail
  go_ret
  exact ⟨rfl, ⟨rfl, rfl, rfl, Nat.le_refl _, fun _ _ => rfl⟩⟩
set_option maxHeartbeats 1000000 in
theorem cls_sub_true (v : Nat) (w : World) (hv : lt64 v) (h : 0 < rg v ∧ rg v < 4503599627370496) (hs : ng v = true) :
    Calls Try.prog 5 #[.int .u64 v] w fun e w' => e = .returned (.bool true) ∧ Below w.heap.size w w' := by
  have hf := from_num v w (by omega)
  have n1 := t_ne_num (show rg v ≤ 9218868437227405312 by omega)
  have sv : sk v = -(rg v : Int) := by unfold sk; rw [hs]; rfl
  have z0 : sk 0 = 0 := by decide
  have z1 : rg 0 = 0 := by decide
  have z2 : sk 4503599627370496 = 4503599627370496 := by decide
  have z3 : rg 4503599627370496 = 4503599627370496 := by decide
  have z4 : sk (flipV 4503599627370496) = -4503599627370496 := by rw [flip_sk, z2]
  have z5 : rg (flipV 4503599627370496) = 4503599627370496 := by rw [flip_rg, z3]
  have HC := class_sub_true v w hv h hs
  have e0 : (FloatKind.f64.format.order v 0 == some .eq) = false := by rw [fmt64, o_eq, Bool.eq_iff_iff]; simp only [Bool.and_eq_true, decide_eq_true_eq, Bool.false_eq_true, iff_false, iff_true, sv, z0, z1, z2, z3, z4, z5]; omega
  have g0 : (FloatKind.f64.format.order v 0 == some .gt) = false := by rw [fmt64, o_gt, Bool.eq_iff_iff]; simp only [Bool.and_eq_true, decide_eq_true_eq, Bool.false_eq_true, iff_false, iff_true, sv, z0, z1, z2, z3, z4, z5]; omega
  have l1 : (FloatKind.f64.format.order v 4503599627370496 == some .lt) = true := by rw [fmt64, o_lt, Bool.eq_iff_iff]; simp only [Bool.and_eq_true, decide_eq_true_eq, Bool.false_eq_true, iff_false, iff_true, sv, z0, z1, z2, z3, z4, z5]; omega
  have l0 : (FloatKind.f64.format.order v 0 == some .lt) = true := by rw [fmt64, o_lt, Bool.eq_iff_iff]; simp only [Bool.and_eq_true, decide_eq_true_eq, Bool.false_eq_true, iff_false, iff_true, sv, z0, z1, z2, z3, z4, z5]; omega
  have g1 : (FloatKind.f64.format.order v (flipV 4503599627370496) == some .gt) = true := by rw [fmt64, o_gt, Bool.eq_iff_iff]; simp only [Bool.and_eq_true, decide_eq_true_eq, Bool.false_eq_true, iff_false, iff_true, sv, z0, z1, z2, z3, z4, z5]; omega
  clear sv z0 z1 z2 z3 z4 z5 h hs
  go_enter Try.func5, Try.ntmps5
  go_wp2_with fail
  refine (hf).mono ?_
  rintro e w' ⟨rfl, rfl⟩
  go_wp2_with fail
  refine (HC).mono ?_
  rintro e w' ⟨rfl, rfl⟩
  go_wp2_with fail
  refine (from_least _).mono ?_
  rintro e w' ⟨rfl, rfl⟩
  go_wp2_with fail
  refine (awake_any _).mono ?_
  rintro e w' ⟨rfl, rfl⟩
  go_wp2_with fail
  go_ret
  exact ⟨rfl, ⟨rfl, rfl, rfl, Nat.le_refl _, fun _ _ => rfl⟩⟩
set_option maxHeartbeats 1000000 in
theorem cls_sub_false (v : Nat) (w : World) (hv : lt64 v) (h : 0 < rg v ∧ rg v < 4503599627370496) (hs : ng v = false) :
    Calls Try.prog 5 #[.int .u64 v] w fun e w' => e = .returned (.bool true) ∧ Below w.heap.size w w' := by
  have hf := from_num v w (by omega)
  have n1 := t_ne_num (show rg v ≤ 9218868437227405312 by omega)
  have sv : sk v = (rg v : Int) := by unfold sk; rw [hs]; rfl
  have z0 : sk 0 = 0 := by decide
  have z1 : rg 0 = 0 := by decide
  have z2 : sk 4503599627370496 = 4503599627370496 := by decide
  have z3 : rg 4503599627370496 = 4503599627370496 := by decide
  have z4 : sk (flipV 4503599627370496) = -4503599627370496 := by rw [flip_sk, z2]
  have z5 : rg (flipV 4503599627370496) = 4503599627370496 := by rw [flip_rg, z3]
  have HC := class_sub_false v w hv h hs
  have e0 : (FloatKind.f64.format.order v 0 == some .eq) = false := by rw [fmt64, o_eq, Bool.eq_iff_iff]; simp only [Bool.and_eq_true, decide_eq_true_eq, Bool.false_eq_true, iff_false, iff_true, sv, z0, z1, z2, z3, z4, z5]; omega
  have g0 : (FloatKind.f64.format.order v 0 == some .gt) = true := by rw [fmt64, o_gt, Bool.eq_iff_iff]; simp only [Bool.and_eq_true, decide_eq_true_eq, Bool.false_eq_true, iff_false, iff_true, sv, z0, z1, z2, z3, z4, z5]; omega
  have l1 : (FloatKind.f64.format.order v 4503599627370496 == some .lt) = true := by rw [fmt64, o_lt, Bool.eq_iff_iff]; simp only [Bool.and_eq_true, decide_eq_true_eq, Bool.false_eq_true, iff_false, iff_true, sv, z0, z1, z2, z3, z4, z5]; omega
  have l0 : (FloatKind.f64.format.order v 0 == some .lt) = false := by rw [fmt64, o_lt, Bool.eq_iff_iff]; simp only [Bool.and_eq_true, decide_eq_true_eq, Bool.false_eq_true, iff_false, iff_true, sv, z0, z1, z2, z3, z4, z5]; omega
  have g1 : (FloatKind.f64.format.order v (flipV 4503599627370496) == some .gt) = true := by rw [fmt64, o_gt, Bool.eq_iff_iff]; simp only [Bool.and_eq_true, decide_eq_true_eq, Bool.false_eq_true, iff_false, iff_true, sv, z0, z1, z2, z3, z4, z5]; omega
  clear sv z0 z1 z2 z3 z4 z5 h hs
  go_enter Try.func5, Try.ntmps5
  go_wp2_with fail
  refine (hf).mono ?_
  rintro e w' ⟨rfl, rfl⟩
  go_wp2_with fail
  refine (HC).mono ?_
  rintro e w' ⟨rfl, rfl⟩
  go_wp2_with fail
  refine (from_least _).mono ?_
  rintro e w' ⟨rfl, rfl⟩
  go_wp2_with fail
  refine (awake_any _).mono ?_
  rintro e w' ⟨rfl, rfl⟩
  go_wp2_with fail
  go_ret
  exact ⟨rfl, ⟨rfl, rfl, rfl, Nat.le_refl _, fun _ _ => rfl⟩⟩
set_option maxHeartbeats 1000000 in
theorem cls_inf_true (v : Nat) (w : World) (hv : lt64 v) (h : rg v = 9218868437227405312) (hs : ng v = true) :
    Calls Try.prog 5 #[.int .u64 v] w fun e w' => e = .returned (.bool true) ∧ Below w.heap.size w w' := by
  have hf := from_num v w (by omega)
  have n1 := t_ne_num (show rg v ≤ 9218868437227405312 by omega)
  have sv : sk v = -(rg v : Int) := by unfold sk; rw [hs]; rfl
  have z0 : sk 0 = 0 := by decide
  have z1 : rg 0 = 0 := by decide
  have z2 : sk 4503599627370496 = 4503599627370496 := by decide
  have z3 : rg 4503599627370496 = 4503599627370496 := by decide
  have z4 : sk (flipV 4503599627370496) = -4503599627370496 := by rw [flip_sk, z2]
  have z5 : rg (flipV 4503599627370496) = 4503599627370496 := by rw [flip_rg, z3]
  have HC := class_inf_true v w hv h hs
  have e0 : (FloatKind.f64.format.order v 0 == some .eq) = false := by rw [fmt64, o_eq, Bool.eq_iff_iff]; simp only [Bool.and_eq_true, decide_eq_true_eq, Bool.false_eq_true, iff_false, iff_true, sv, z0, z1, z2, z3, z4, z5]; omega
  have g0 : (FloatKind.f64.format.order v 0 == some .gt) = false := by rw [fmt64, o_gt, Bool.eq_iff_iff]; simp only [Bool.and_eq_true, decide_eq_true_eq, Bool.false_eq_true, iff_false, iff_true, sv, z0, z1, z2, z3, z4, z5]; omega
  have l1 : (FloatKind.f64.format.order v 4503599627370496 == some .lt) = true := by rw [fmt64, o_lt, Bool.eq_iff_iff]; simp only [Bool.and_eq_true, decide_eq_true_eq, Bool.false_eq_true, iff_false, iff_true, sv, z0, z1, z2, z3, z4, z5]; omega
  have l0 : (FloatKind.f64.format.order v 0 == some .lt) = true := by rw [fmt64, o_lt, Bool.eq_iff_iff]; simp only [Bool.and_eq_true, decide_eq_true_eq, Bool.false_eq_true, iff_false, iff_true, sv, z0, z1, z2, z3, z4, z5]; omega
  have g1 : (FloatKind.f64.format.order v (flipV 4503599627370496) == some .gt) = false := by rw [fmt64, o_gt, Bool.eq_iff_iff]; simp only [Bool.and_eq_true, decide_eq_true_eq, Bool.false_eq_true, iff_false, iff_true, sv, z0, z1, z2, z3, z4, z5]; omega
  have d1 : ∀ W : World, (FloatKind.f64.format.order (fR .sub v v W) 0 != some .eq) = true := fun W => by rw [fmt64, o_ne]; have := fR_nan (sub_inf h) W; simp; omega
  clear sv z0 z1 z2 z3 z4 z5 h hs
  go_enter Try.func5, Try.ntmps5
  go_wp2_with fail
  refine (hf).mono ?_
  rintro e w' ⟨rfl, rfl⟩
  go_wp2_with fail
  refine (HC).mono ?_
  rintro e w' ⟨rfl, rfl⟩
  go_wp2_with fail
  refine (from_least _).mono ?_
  rintro e w' ⟨rfl, rfl⟩
  go_wp2_with fail
  refine (awake_any _).mono ?_
  rintro e w' ⟨rfl, rfl⟩
  go_wp2_with fail
  go_ret
  exact ⟨rfl, ⟨rfl, rfl, rfl, Nat.le_refl _, fun _ _ => rfl⟩⟩
set_option maxHeartbeats 1000000 in
theorem cls_inf_false (v : Nat) (w : World) (hv : lt64 v) (h : rg v = 9218868437227405312) (hs : ng v = false) :
    Calls Try.prog 5 #[.int .u64 v] w fun e w' => e = .returned (.bool true) ∧ Below w.heap.size w w' := by
  have hf := from_num v w (by omega)
  have n1 := t_ne_num (show rg v ≤ 9218868437227405312 by omega)
  have sv : sk v = (rg v : Int) := by unfold sk; rw [hs]; rfl
  have z0 : sk 0 = 0 := by decide
  have z1 : rg 0 = 0 := by decide
  have z2 : sk 4503599627370496 = 4503599627370496 := by decide
  have z3 : rg 4503599627370496 = 4503599627370496 := by decide
  have z4 : sk (flipV 4503599627370496) = -4503599627370496 := by rw [flip_sk, z2]
  have z5 : rg (flipV 4503599627370496) = 4503599627370496 := by rw [flip_rg, z3]
  have HC := class_inf_false v w hv h hs
  have e0 : (FloatKind.f64.format.order v 0 == some .eq) = false := by rw [fmt64, o_eq, Bool.eq_iff_iff]; simp only [Bool.and_eq_true, decide_eq_true_eq, Bool.false_eq_true, iff_false, iff_true, sv, z0, z1, z2, z3, z4, z5]; omega
  have g0 : (FloatKind.f64.format.order v 0 == some .gt) = true := by rw [fmt64, o_gt, Bool.eq_iff_iff]; simp only [Bool.and_eq_true, decide_eq_true_eq, Bool.false_eq_true, iff_false, iff_true, sv, z0, z1, z2, z3, z4, z5]; omega
  have l1 : (FloatKind.f64.format.order v 4503599627370496 == some .lt) = false := by rw [fmt64, o_lt, Bool.eq_iff_iff]; simp only [Bool.and_eq_true, decide_eq_true_eq, Bool.false_eq_true, iff_false, iff_true, sv, z0, z1, z2, z3, z4, z5]; omega
  have l0 : (FloatKind.f64.format.order v 0 == some .lt) = false := by rw [fmt64, o_lt, Bool.eq_iff_iff]; simp only [Bool.and_eq_true, decide_eq_true_eq, Bool.false_eq_true, iff_false, iff_true, sv, z0, z1, z2, z3, z4, z5]; omega
  have g1 : (FloatKind.f64.format.order v (flipV 4503599627370496) == some .gt) = true := by rw [fmt64, o_gt, Bool.eq_iff_iff]; simp only [Bool.and_eq_true, decide_eq_true_eq, Bool.false_eq_true, iff_false, iff_true, sv, z0, z1, z2, z3, z4, z5]; omega
  have d1 : ∀ W : World, (FloatKind.f64.format.order (fR .sub v v W) 0 != some .eq) = true := fun W => by rw [fmt64, o_ne]; have := fR_nan (sub_inf h) W; simp; omega
  clear sv z0 z1 z2 z3 z4 z5 h hs
  go_enter Try.func5, Try.ntmps5
  go_wp2_with fail
  refine (hf).mono ?_
  rintro e w' ⟨rfl, rfl⟩
  go_wp2_with fail
  refine (HC).mono ?_
  rintro e w' ⟨rfl, rfl⟩
  go_wp2_with fail
  refine (from_least _).mono ?_
  rintro e w' ⟨rfl, rfl⟩
  go_wp2_with fail
  refine (awake_any _).mono ?_
  rintro e w' ⟨rfl, rfl⟩
  go_wp2_with fail
  go_ret
  exact ⟨rfl, ⟨rfl, rfl, rfl, Nat.le_refl _, fun _ _ => rfl⟩⟩
set_option maxHeartbeats 1000000 in
theorem cls_num_true (v : Nat) (w : World) (hv : lt64 v) (h : 4503599627370496 ≤ rg v ∧ rg v < 9218868437227405312) (hs : ng v = true) :
    Calls Try.prog 5 #[.int .u64 v] w fun e w' => e = .returned (.bool true) ∧ Below w.heap.size w w' := by
  have hf := from_num v w (by omega)
  have n1 := t_ne_num (show rg v ≤ 9218868437227405312 by omega)
  have sv : sk v = -(rg v : Int) := by unfold sk; rw [hs]; rfl
  have z0 : sk 0 = 0 := by decide
  have z1 : rg 0 = 0 := by decide
  have z2 : sk 4503599627370496 = 4503599627370496 := by decide
  have z3 : rg 4503599627370496 = 4503599627370496 := by decide
  have z4 : sk (flipV 4503599627370496) = -4503599627370496 := by rw [flip_sk, z2]
  have z5 : rg (flipV 4503599627370496) = 4503599627370496 := by rw [flip_rg, z3]
  have HC := class_num_true v w hv h hs
  have e0 : (FloatKind.f64.format.order v 0 == some .eq) = false := by rw [fmt64, o_eq, Bool.eq_iff_iff]; simp only [Bool.and_eq_true, decide_eq_true_eq, Bool.false_eq_true, iff_false, iff_true, sv, z0, z1, z2, z3, z4, z5]; omega
  have g0 : (FloatKind.f64.format.order v 0 == some .gt) = false := by rw [fmt64, o_gt, Bool.eq_iff_iff]; simp only [Bool.and_eq_true, decide_eq_true_eq, Bool.false_eq_true, iff_false, iff_true, sv, z0, z1, z2, z3, z4, z5]; omega
  have l1 : (FloatKind.f64.format.order v 4503599627370496 == some .lt) = true := by rw [fmt64, o_lt, Bool.eq_iff_iff]; simp only [Bool.and_eq_true, decide_eq_true_eq, Bool.false_eq_true, iff_false, iff_true, sv, z0, z1, z2, z3, z4, z5]; omega
  have l0 : (FloatKind.f64.format.order v 0 == some .lt) = true := by rw [fmt64, o_lt, Bool.eq_iff_iff]; simp only [Bool.and_eq_true, decide_eq_true_eq, Bool.false_eq_true, iff_false, iff_true, sv, z0, z1, z2, z3, z4, z5]; omega
  have g1 : (FloatKind.f64.format.order v (flipV 4503599627370496) == some .gt) = false := by rw [fmt64, o_gt, Bool.eq_iff_iff]; simp only [Bool.and_eq_true, decide_eq_true_eq, Bool.false_eq_true, iff_false, iff_true, sv, z0, z1, z2, z3, z4, z5]; omega
  have d1 : ∀ W : World, (FloatKind.f64.format.order (fR .sub v v W) 0 != some .eq) = false := fun W => by rw [fR_num (by rw [sub_self (by omega)]; decide) W, sub_self (by omega)]; decide +kernel
  clear sv z0 z1 z2 z3 z4 z5 h hs
  go_enter Try.func5, Try.ntmps5
  go_wp2_with fail
  refine (hf).mono ?_
  rintro e w' ⟨rfl, rfl⟩
  go_wp2_with fail
  refine (HC).mono ?_
  rintro e w' ⟨rfl, rfl⟩
  go_wp2_with fail
  refine (from_least _).mono ?_
  rintro e w' ⟨rfl, rfl⟩
  go_wp2_with fail
  refine (awake_any _).mono ?_
  rintro e w' ⟨rfl, rfl⟩
  go_wp2_with fail
  go_ret
  exact ⟨rfl, ⟨rfl, rfl, rfl, Nat.le_refl _, fun _ _ => rfl⟩⟩
set_option maxHeartbeats 1000000 in
theorem cls_num_false (v : Nat) (w : World) (hv : lt64 v) (h : 4503599627370496 ≤ rg v ∧ rg v < 9218868437227405312) (hs : ng v = false) :
    Calls Try.prog 5 #[.int .u64 v] w fun e w' => e = .returned (.bool true) ∧ Below w.heap.size w w' := by
  have hf := from_num v w (by omega)
  have n1 := t_ne_num (show rg v ≤ 9218868437227405312 by omega)
  have sv : sk v = (rg v : Int) := by unfold sk; rw [hs]; rfl
  have z0 : sk 0 = 0 := by decide
  have z1 : rg 0 = 0 := by decide
  have z2 : sk 4503599627370496 = 4503599627370496 := by decide
  have z3 : rg 4503599627370496 = 4503599627370496 := by decide
  have z4 : sk (flipV 4503599627370496) = -4503599627370496 := by rw [flip_sk, z2]
  have z5 : rg (flipV 4503599627370496) = 4503599627370496 := by rw [flip_rg, z3]
  have HC := class_num_false v w hv h hs
  have e0 : (FloatKind.f64.format.order v 0 == some .eq) = false := by rw [fmt64, o_eq, Bool.eq_iff_iff]; simp only [Bool.and_eq_true, decide_eq_true_eq, Bool.false_eq_true, iff_false, iff_true, sv, z0, z1, z2, z3, z4, z5]; omega
  have g0 : (FloatKind.f64.format.order v 0 == some .gt) = true := by rw [fmt64, o_gt, Bool.eq_iff_iff]; simp only [Bool.and_eq_true, decide_eq_true_eq, Bool.false_eq_true, iff_false, iff_true, sv, z0, z1, z2, z3, z4, z5]; omega
  have l1 : (FloatKind.f64.format.order v 4503599627370496 == some .lt) = false := by rw [fmt64, o_lt, Bool.eq_iff_iff]; simp only [Bool.and_eq_true, decide_eq_true_eq, Bool.false_eq_true, iff_false, iff_true, sv, z0, z1, z2, z3, z4, z5]; omega
  have l0 : (FloatKind.f64.format.order v 0 == some .lt) = false := by rw [fmt64, o_lt, Bool.eq_iff_iff]; simp only [Bool.and_eq_true, decide_eq_true_eq, Bool.false_eq_true, iff_false, iff_true, sv, z0, z1, z2, z3, z4, z5]; omega
  have g1 : (FloatKind.f64.format.order v (flipV 4503599627370496) == some .gt) = true := by rw [fmt64, o_gt, Bool.eq_iff_iff]; simp only [Bool.and_eq_true, decide_eq_true_eq, Bool.false_eq_true, iff_false, iff_true, sv, z0, z1, z2, z3, z4, z5]; omega
  have d1 : ∀ W : World, (FloatKind.f64.format.order (fR .sub v v W) 0 != some .eq) = false := fun W => by rw [fR_num (by rw [sub_self (by omega)]; decide) W, sub_self (by omega)]; decide +kernel
  clear sv z0 z1 z2 z3 z4 z5 h hs
  go_enter Try.func5, Try.ntmps5
  go_wp2_with fail
  refine (hf).mono ?_
  rintro e w' ⟨rfl, rfl⟩
  go_wp2_with fail
  refine (HC).mono ?_
  rintro e w' ⟨rfl, rfl⟩
  go_wp2_with fail
  refine (from_least _).mono ?_
  rintro e w' ⟨rfl, rfl⟩
  go_wp2_with fail
  refine (awake_any _).mono ?_
  rintro e w' ⟨rfl, rfl⟩
  go_wp2_with fail
  go_ret
  exact ⟨rfl, ⟨rfl, rfl, rfl, Nat.le_refl _, fun _ _ => rfl⟩⟩
theorem cls_walk (v : Int) (w : World) (hv : (Lit.int .u64 v).wf = true) :
    Calls Try.prog 5 #[.int .u64 v] w fun e w' => e = .returned (.bool true) ∧ Below w.heap.size w w' := by
  obtain ⟨n, rfl, hn⟩ := u64_nat hv
  rcases class_ways n with h | ⟨h0, h | h | h | h⟩
  · exact cls_nan n w hn h
  · cases hs : ng n
    · exact cls_zero_false n w hn h hs
    · exact cls_zero_true n w hn h hs
  · cases hs : ng n
    · exact cls_sub_false n w hn h hs
    · exact cls_sub_true n w hn h hs
  · cases hs : ng n
    · exact cls_inf_false n w hn h hs
    · exact cls_inf_true n w hn h hs
  · cases hs : ng n
    · exact cls_num_false n w hn h hs
    · exact cls_num_true n w hn h hs
end Go.Proofs.Ytmnnlchnobbogaa.Fb
