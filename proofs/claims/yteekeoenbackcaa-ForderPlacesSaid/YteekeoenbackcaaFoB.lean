/- Contracts of most, Min, Max, Clamp of forder and of the reference, of Nums and Round: what each returns, for every number. -/
import Derived.Test.YteekeoenbackcaaSoD
import Derived.Test.YteekeoenbackcaaFoA
namespace Go.Proofs.Yteekeoenbackcaa.So
set_option linter.unusedSimpArgs false
set_option linter.unusedVariables false
open Go.RowKit Go.Sort Go.Lib Fl Fb
attribute [local go_sem] u64_unsigned

set_option maxHeartbeats 1000000 in
theorem wcl_nx (x lo hi : Nat) (w : World) (hx : lt64 x) (hlo : lt64 lo) (hhi : lt64 hi) (h : 9218868437227405312 < rg x) :
    Calls Try.prog 23 #[.float .f64 x, .float .f64 lo, .float .f64 hi] w fun e w' => e = .returned (.float .f64 (clampV x lo hi)) ∧ w = w' := by
  have n_x := t_ne_nan h
  have HR := Lib.hid (clamp_nx (lo := lo) (hi := hi) h)
  clear h
  go_enter Try.func23, Try.ntmps23
  go_wp2_with fail
  refine (from_any _ _).mono ?_
  rintro e w' ⟨rfl, rfl⟩
  go_wp2_with fail
  go_ret
  exact ⟨by rw [HR.out]; first | rfl | decide, rfl⟩
set_option maxHeartbeats 1000000 in
theorem wcl_nl (x lo hi : Nat) (w : World) (hx : lt64 x) (hlo : lt64 lo) (hhi : lt64 hi) (h_x : rg x ≤ 9218868437227405312) (h : 9218868437227405312 < rg lo) :
    Calls Try.prog 23 #[.float .f64 x, .float .f64 lo, .float .f64 hi] w fun e w' => e = .returned (.float .f64 (clampV x lo hi)) ∧ w = w' := by
  have n_x := t_ne_num h_x
  have n_l := t_ne_nan h
  have HR := Lib.hid (clamp_nl (x := x) (hi := hi) h)
  clear h h_x
  go_enter Try.func23, Try.ntmps23
  go_wp2_with fail
  refine (from_any _ _).mono ?_
  rintro e w' ⟨rfl, rfl⟩
  go_wp2_with fail
  go_ret
  exact ⟨by rw [HR.out]; first | rfl | decide, rfl⟩
set_option maxHeartbeats 1000000 in
theorem wcl_nh (x lo hi : Nat) (w : World) (hx : lt64 x) (hlo : lt64 lo) (hhi : lt64 hi) (h_x : rg x ≤ 9218868437227405312) (h_lo : rg lo ≤ 9218868437227405312) (h : 9218868437227405312 < rg hi) :
    Calls Try.prog 23 #[.float .f64 x, .float .f64 lo, .float .f64 hi] w fun e w' => e = .returned (.float .f64 (clampV x lo hi)) ∧ w = w' := by
  have n_x := t_ne_num h_x
  have n_lo := t_ne_num h_lo
  have n_h := t_ne_nan h
  have HR := Lib.hid (clamp_nh (x := x) (lo := lo) h)
  clear h h_x h_lo
  go_enter Try.func23, Try.ntmps23
  go_wp2_with fail
  refine (from_any _ _).mono ?_
  rintro e w' ⟨rfl, rfl⟩
  go_wp2_with fail
  go_ret
  exact ⟨by rw [HR.out]; first | rfl | decide, rfl⟩
set_option maxHeartbeats 1000000 in
theorem wcl_no (x lo hi : Nat) (w : World) (hx : lt64 x) (hlo : lt64 lo) (hhi : lt64 hi) (h_x : rg x ≤ 9218868437227405312) (h_lo : rg lo ≤ 9218868437227405312) (h_hi : rg hi ≤ 9218868437227405312) (h : keyV hi < keyV lo) :
    Calls Try.prog 23 #[.float .f64 x, .float .f64 lo, .float .f64 hi] w fun e w' => e = .returned (.float .f64 (clampV x lo hi)) ∧ w = w' := by
  have n_x := t_ne_num h_x
  have n_lo := t_ne_num h_lo
  have n_hi := t_ne_num h_hi
  have q1 : decide (0 < cmpN (keyV lo) (keyV hi)) = true := by rw [cmp_gt0]; exact decide_eq_true (by omega)
  have HR := Lib.hid (clamp_no (x := x) h)
  clear h h_x h_lo h_hi
  go_enter Try.func23, Try.ntmps23
  go_wp2_with fail
  refine (cmp_any _ _ _ hlo hhi).mono ?_
  rintro e w' ⟨rfl, rfl⟩
  go_wp2_with fail
  refine (from_any _ _).mono ?_
  rintro e w' ⟨rfl, rfl⟩
  go_wp2_with fail
  go_ret
  exact ⟨by rw [HR.out]; first | rfl | decide, rfl⟩
set_option maxHeartbeats 1000000 in
theorem wcl_lo (x lo hi : Nat) (w : World) (hx : lt64 x) (hlo : lt64 lo) (hhi : lt64 hi) (h_x : rg x ≤ 9218868437227405312) (h_lo : rg lo ≤ 9218868437227405312) (h_hi : rg hi ≤ 9218868437227405312) (h1 : keyV lo ≤ keyV hi) (h2 : keyV x < keyV lo) :
    Calls Try.prog 23 #[.float .f64 x, .float .f64 lo, .float .f64 hi] w fun e w' => e = .returned (.float .f64 (clampV x lo hi)) ∧ w = w' := by
  have n_x := t_ne_num h_x
  have n_lo := t_ne_num h_lo
  have n_hi := t_ne_num h_hi
  have q1 : decide (0 < cmpN (keyV lo) (keyV hi)) = false := by rw [cmp_gt0]; exact decide_eq_false (by omega)
  have q2 : decide (cmpN (keyV x) (keyV lo) < 0) = true := by rw [cmp_lt0]; exact decide_eq_true (by omega)
  have HR := Lib.hid (clamp_lo h_x h_lo h_hi h1 h2)
  clear h1 h2 h_x h_lo h_hi
  go_enter Try.func23, Try.ntmps23
  go_wp2_with fail
  refine (cmp_any _ _ _ hlo hhi).mono ?_
  rintro e w' ⟨rfl, rfl⟩
  go_wp2_with fail
  refine (cmp_any _ _ _ hx hlo).mono ?_
  rintro e w' ⟨rfl, rfl⟩
  go_wp2_with fail
  go_ret
  exact ⟨by rw [HR.out]; first | rfl | decide, rfl⟩
set_option maxHeartbeats 1000000 in
theorem wcl_hi (x lo hi : Nat) (w : World) (hx : lt64 x) (hlo : lt64 lo) (hhi : lt64 hi) (h_x : rg x ≤ 9218868437227405312) (h_lo : rg lo ≤ 9218868437227405312) (h_hi : rg hi ≤ 9218868437227405312) (h1 : keyV lo ≤ keyV hi) (h2 : keyV lo ≤ keyV x) (h3 : keyV hi < keyV x) :
    Calls Try.prog 23 #[.float .f64 x, .float .f64 lo, .float .f64 hi] w fun e w' => e = .returned (.float .f64 (clampV x lo hi)) ∧ w = w' := by
  have n_x := t_ne_num h_x
  have n_lo := t_ne_num h_lo
  have n_hi := t_ne_num h_hi
  have q1 : decide (0 < cmpN (keyV lo) (keyV hi)) = false := by rw [cmp_gt0]; exact decide_eq_false (by omega)
  have q2 : decide (cmpN (keyV x) (keyV lo) < 0) = false := by rw [cmp_lt0]; exact decide_eq_false (by omega)
  have q3 : decide (0 < cmpN (keyV x) (keyV hi)) = true := by rw [cmp_gt0]; exact decide_eq_true (by omega)
  have HR := Lib.hid (clamp_hi h_x h_lo h_hi h1 h2 h3)
  clear h1 h2 h3 h_x h_lo h_hi
  go_enter Try.func23, Try.ntmps23
  go_wp2_with fail
  refine (cmp_any _ _ _ hlo hhi).mono ?_
  rintro e w' ⟨rfl, rfl⟩
  go_wp2_with fail
  refine (cmp_any _ _ _ hx hlo).mono ?_
  rintro e w' ⟨rfl, rfl⟩
  go_wp2_with fail
  refine (cmp_any _ _ _ hx hhi).mono ?_
  rintro e w' ⟨rfl, rfl⟩
  go_wp2_with fail
  go_ret
  exact ⟨by rw [HR.out]; first | rfl | decide, rfl⟩
set_option maxHeartbeats 1000000 in
theorem wcl_in (x lo hi : Nat) (w : World) (hx : lt64 x) (hlo : lt64 lo) (hhi : lt64 hi) (h_x : rg x ≤ 9218868437227405312) (h_lo : rg lo ≤ 9218868437227405312) (h_hi : rg hi ≤ 9218868437227405312) (h1 : keyV lo ≤ keyV hi) (h2 : keyV lo ≤ keyV x) (h3 : keyV x ≤ keyV hi) :
    Calls Try.prog 23 #[.float .f64 x, .float .f64 lo, .float .f64 hi] w fun e w' => e = .returned (.float .f64 (clampV x lo hi)) ∧ w = w' := by
  have n_x := t_ne_num h_x
  have n_lo := t_ne_num h_lo
  have n_hi := t_ne_num h_hi
  have q1 : decide (0 < cmpN (keyV lo) (keyV hi)) = false := by rw [cmp_gt0]; exact decide_eq_false (by omega)
  have q2 : decide (cmpN (keyV x) (keyV lo) < 0) = false := by rw [cmp_lt0]; exact decide_eq_false (by omega)
  have q3 : decide (0 < cmpN (keyV x) (keyV hi)) = false := by rw [cmp_gt0]; exact decide_eq_false (by omega)
  have HR := Lib.hid (clamp_in h_x h_lo h_hi h1 h2 h3)
  clear h1 h2 h3 h_x h_lo h_hi
  go_enter Try.func23, Try.ntmps23
  go_wp2_with fail
  refine (cmp_any _ _ _ hlo hhi).mono ?_
  rintro e w' ⟨rfl, rfl⟩
  go_wp2_with fail
  refine (cmp_any _ _ _ hx hlo).mono ?_
  rintro e w' ⟨rfl, rfl⟩
  go_wp2_with fail
  refine (cmp_any _ _ _ hx hhi).mono ?_
  rintro e w' ⟨rfl, rfl⟩
  go_wp2_with fail
  go_ret
  exact ⟨by rw [HR.out]; first | rfl | decide, rfl⟩
theorem clamp_any (x lo hi : Nat) (w : World) (hx : lt64 x) (hlo : lt64 lo) (hhi : lt64 hi) :
    Calls Try.prog 23 #[.float .f64 x, .float .f64 lo, .float .f64 hi] w fun e w' => e = .returned (.float .f64 (clampV x lo hi)) ∧ w = w' := by
  rcases Nat.lt_or_ge 9218868437227405312 (rg x) with h_x | h_x
  · exact wcl_nx x lo hi w hx hlo hhi h_x
  rcases Nat.lt_or_ge 9218868437227405312 (rg lo) with h_lo | h_lo
  · exact wcl_nl x lo hi w hx hlo hhi h_x h_lo
  rcases Nat.lt_or_ge 9218868437227405312 (rg hi) with h_hi | h_hi
  · exact wcl_nh x lo hi w hx hlo hhi h_x h_lo h_hi
  rcases Nat.lt_or_ge (keyV hi) (keyV lo) with h1 | h1
  · exact wcl_no x lo hi w hx hlo hhi h_x h_lo h_hi h1
  rcases Nat.lt_or_ge (keyV x) (keyV lo) with h2 | h2
  · exact wcl_lo x lo hi w hx hlo hhi h_x h_lo h_hi h1 h2
  rcases Nat.lt_or_ge (keyV hi) (keyV x) with h3 | h3
  · exact wcl_hi x lo hi w hx hlo hhi h_x h_lo h_hi h1 h2 h3
  · exact wcl_in x lo hi w hx hlo hhi h_x h_lo h_hi h1 h2 h3
set_option maxHeartbeats 1000000 in
theorem rwcl_nx (x lo hi : Nat) (w : World) (hx : lt64 x) (hlo : lt64 lo) (hhi : lt64 hi) (h : 9218868437227405312 < rg x) :
    Calls Try.prog 26 #[.float .f64 x, .float .f64 lo, .float .f64 hi] w fun e w' => e = .returned (.float .f64 (clampV x lo hi)) ∧ w = w' := by
  have n_x := t_ne_nan h
  have HR := Lib.hid (clamp_nx (lo := lo) (hi := hi) h)
  clear h
  go_enter Try.func26, Try.ntmps26
  go_wp2_with fail
  refine (rfrom_any 9221120237041090560 _ (by omega)).mono ?_
  rintro e w' ⟨rfl, rfl⟩
  go_wp2_with fail
  go_ret
  exact ⟨by rw [HR.out]; first | rfl | decide, rfl⟩
set_option maxHeartbeats 1000000 in
theorem rwcl_nl (x lo hi : Nat) (w : World) (hx : lt64 x) (hlo : lt64 lo) (hhi : lt64 hi) (h_x : rg x ≤ 9218868437227405312) (h : 9218868437227405312 < rg lo) :
    Calls Try.prog 26 #[.float .f64 x, .float .f64 lo, .float .f64 hi] w fun e w' => e = .returned (.float .f64 (clampV x lo hi)) ∧ w = w' := by
  have n_x := t_ne_num h_x
  have n_l := t_ne_nan h
  have HR := Lib.hid (clamp_nl (x := x) (hi := hi) h)
  clear h h_x
  go_enter Try.func26, Try.ntmps26
  go_wp2_with fail
  refine (rfrom_any 9221120237041090560 _ (by omega)).mono ?_
  rintro e w' ⟨rfl, rfl⟩
  go_wp2_with fail
  go_ret
  exact ⟨by rw [HR.out]; first | rfl | decide, rfl⟩
set_option maxHeartbeats 1000000 in
theorem rwcl_nh (x lo hi : Nat) (w : World) (hx : lt64 x) (hlo : lt64 lo) (hhi : lt64 hi) (h_x : rg x ≤ 9218868437227405312) (h_lo : rg lo ≤ 9218868437227405312) (h : 9218868437227405312 < rg hi) :
    Calls Try.prog 26 #[.float .f64 x, .float .f64 lo, .float .f64 hi] w fun e w' => e = .returned (.float .f64 (clampV x lo hi)) ∧ w = w' := by
  have n_x := t_ne_num h_x
  have n_lo := t_ne_num h_lo
  have n_h := t_ne_nan h
  have HR := Lib.hid (clamp_nh (x := x) (lo := lo) h)
  clear h h_x h_lo
  go_enter Try.func26, Try.ntmps26
  go_wp2_with fail
  refine (rfrom_any 9221120237041090560 _ (by omega)).mono ?_
  rintro e w' ⟨rfl, rfl⟩
  go_wp2_with fail
  go_ret
  exact ⟨by rw [HR.out]; first | rfl | decide, rfl⟩
set_option maxHeartbeats 1000000 in
theorem rwcl_no (x lo hi : Nat) (w : World) (hx : lt64 x) (hlo : lt64 lo) (hhi : lt64 hi) (h_x : rg x ≤ 9218868437227405312) (h_lo : rg lo ≤ 9218868437227405312) (h_hi : rg hi ≤ 9218868437227405312) (h : keyV hi < keyV lo) :
    Calls Try.prog 26 #[.float .f64 x, .float .f64 lo, .float .f64 hi] w fun e w' => e = .returned (.float .f64 (clampV x lo hi)) ∧ w = w' := by
  have n_x := t_ne_num h_x
  have n_lo := t_ne_num h_lo
  have n_hi := t_ne_num h_hi
  have q1 : decide (0 < cmpN (keyV lo) (keyV hi)) = true := by rw [cmp_gt0]; exact decide_eq_true (by omega)
  have HR := Lib.hid (clamp_no (x := x) h)
  clear h h_x h_lo h_hi
  go_enter Try.func26, Try.ntmps26
  go_wp2_with fail
  refine (rcmp_any _ _ _ hlo hhi).mono ?_
  rintro e w' ⟨rfl, rfl⟩
  go_wp2_with fail
  refine (rfrom_any 9221120237041090560 _ (by omega)).mono ?_
  rintro e w' ⟨rfl, rfl⟩
  go_wp2_with fail
  go_ret
  exact ⟨by rw [HR.out]; first | rfl | decide, rfl⟩
set_option maxHeartbeats 1000000 in
theorem rwcl_lo (x lo hi : Nat) (w : World) (hx : lt64 x) (hlo : lt64 lo) (hhi : lt64 hi) (h_x : rg x ≤ 9218868437227405312) (h_lo : rg lo ≤ 9218868437227405312) (h_hi : rg hi ≤ 9218868437227405312) (h1 : keyV lo ≤ keyV hi) (h2 : keyV x < keyV lo) :
    Calls Try.prog 26 #[.float .f64 x, .float .f64 lo, .float .f64 hi] w fun e w' => e = .returned (.float .f64 (clampV x lo hi)) ∧ w = w' := by
  have n_x := t_ne_num h_x
  have n_lo := t_ne_num h_lo
  have n_hi := t_ne_num h_hi
  have q1 : decide (0 < cmpN (keyV lo) (keyV hi)) = false := by rw [cmp_gt0]; exact decide_eq_false (by omega)
  have q2 : decide (cmpN (keyV x) (keyV lo) < 0) = true := by rw [cmp_lt0]; exact decide_eq_true (by omega)
  have HR := Lib.hid (clamp_lo h_x h_lo h_hi h1 h2)
  clear h1 h2 h_x h_lo h_hi
  go_enter Try.func26, Try.ntmps26
  go_wp2_with fail
  refine (rcmp_any _ _ _ hlo hhi).mono ?_
  rintro e w' ⟨rfl, rfl⟩
  go_wp2_with fail
  refine (rcmp_any _ _ _ hx hlo).mono ?_
  rintro e w' ⟨rfl, rfl⟩
  go_wp2_with fail
  go_ret
  exact ⟨by rw [HR.out]; first | rfl | decide, rfl⟩
set_option maxHeartbeats 1000000 in
theorem rwcl_hi (x lo hi : Nat) (w : World) (hx : lt64 x) (hlo : lt64 lo) (hhi : lt64 hi) (h_x : rg x ≤ 9218868437227405312) (h_lo : rg lo ≤ 9218868437227405312) (h_hi : rg hi ≤ 9218868437227405312) (h1 : keyV lo ≤ keyV hi) (h2 : keyV lo ≤ keyV x) (h3 : keyV hi < keyV x) :
    Calls Try.prog 26 #[.float .f64 x, .float .f64 lo, .float .f64 hi] w fun e w' => e = .returned (.float .f64 (clampV x lo hi)) ∧ w = w' := by
  have n_x := t_ne_num h_x
  have n_lo := t_ne_num h_lo
  have n_hi := t_ne_num h_hi
  have q1 : decide (0 < cmpN (keyV lo) (keyV hi)) = false := by rw [cmp_gt0]; exact decide_eq_false (by omega)
  have q2 : decide (cmpN (keyV x) (keyV lo) < 0) = false := by rw [cmp_lt0]; exact decide_eq_false (by omega)
  have q3 : decide (0 < cmpN (keyV x) (keyV hi)) = true := by rw [cmp_gt0]; exact decide_eq_true (by omega)
  have HR := Lib.hid (clamp_hi h_x h_lo h_hi h1 h2 h3)
  clear h1 h2 h3 h_x h_lo h_hi
  go_enter Try.func26, Try.ntmps26
  go_wp2_with fail
  refine (rcmp_any _ _ _ hlo hhi).mono ?_
  rintro e w' ⟨rfl, rfl⟩
  go_wp2_with fail
  refine (rcmp_any _ _ _ hx hlo).mono ?_
  rintro e w' ⟨rfl, rfl⟩
  go_wp2_with fail
  refine (rcmp_any _ _ _ hx hhi).mono ?_
  rintro e w' ⟨rfl, rfl⟩
  go_wp2_with fail
  go_ret
  exact ⟨by rw [HR.out]; first | rfl | decide, rfl⟩
set_option maxHeartbeats 1000000 in
theorem rwcl_in (x lo hi : Nat) (w : World) (hx : lt64 x) (hlo : lt64 lo) (hhi : lt64 hi) (h_x : rg x ≤ 9218868437227405312) (h_lo : rg lo ≤ 9218868437227405312) (h_hi : rg hi ≤ 9218868437227405312) (h1 : keyV lo ≤ keyV hi) (h2 : keyV lo ≤ keyV x) (h3 : keyV x ≤ keyV hi) :
    Calls Try.prog 26 #[.float .f64 x, .float .f64 lo, .float .f64 hi] w fun e w' => e = .returned (.float .f64 (clampV x lo hi)) ∧ w = w' := by
  have n_x := t_ne_num h_x
  have n_lo := t_ne_num h_lo
  have n_hi := t_ne_num h_hi
  have q1 : decide (0 < cmpN (keyV lo) (keyV hi)) = false := by rw [cmp_gt0]; exact decide_eq_false (by omega)
  have q2 : decide (cmpN (keyV x) (keyV lo) < 0) = false := by rw [cmp_lt0]; exact decide_eq_false (by omega)
  have q3 : decide (0 < cmpN (keyV x) (keyV hi)) = false := by rw [cmp_gt0]; exact decide_eq_false (by omega)
  have HR := Lib.hid (clamp_in h_x h_lo h_hi h1 h2 h3)
  clear h1 h2 h3 h_x h_lo h_hi
  go_enter Try.func26, Try.ntmps26
  go_wp2_with fail
  refine (rcmp_any _ _ _ hlo hhi).mono ?_
  rintro e w' ⟨rfl, rfl⟩
  go_wp2_with fail
  refine (rcmp_any _ _ _ hx hlo).mono ?_
  rintro e w' ⟨rfl, rfl⟩
  go_wp2_with fail
  refine (rcmp_any _ _ _ hx hhi).mono ?_
  rintro e w' ⟨rfl, rfl⟩
  go_wp2_with fail
  go_ret
  exact ⟨by rw [HR.out]; first | rfl | decide, rfl⟩
theorem rclamp_any (x lo hi : Nat) (w : World) (hx : lt64 x) (hlo : lt64 lo) (hhi : lt64 hi) :
    Calls Try.prog 26 #[.float .f64 x, .float .f64 lo, .float .f64 hi] w fun e w' => e = .returned (.float .f64 (clampV x lo hi)) ∧ w = w' := by
  rcases Nat.lt_or_ge 9218868437227405312 (rg x) with h_x | h_x
  · exact rwcl_nx x lo hi w hx hlo hhi h_x
  rcases Nat.lt_or_ge 9218868437227405312 (rg lo) with h_lo | h_lo
  · exact rwcl_nl x lo hi w hx hlo hhi h_x h_lo
  rcases Nat.lt_or_ge 9218868437227405312 (rg hi) with h_hi | h_hi
  · exact rwcl_nh x lo hi w hx hlo hhi h_x h_lo h_hi
  rcases Nat.lt_or_ge (keyV hi) (keyV lo) with h1 | h1
  · exact rwcl_no x lo hi w hx hlo hhi h_x h_lo h_hi h1
  rcases Nat.lt_or_ge (keyV x) (keyV lo) with h2 | h2
  · exact rwcl_lo x lo hi w hx hlo hhi h_x h_lo h_hi h1 h2
  rcases Nat.lt_or_ge (keyV hi) (keyV x) with h3 | h3
  · exact rwcl_hi x lo hi w hx hlo hhi h_x h_lo h_hi h1 h2 h3
  · exact rwcl_in x lo hi w hx hlo hhi h_x h_lo h_hi h1 h2 h3
set_option maxHeartbeats 1000000 in
theorem most_none (A : Option Addr) (c : Nat) (way : Int) (w : World) :
    Calls Try.prog 34 #[.slice A 0 c, .int .i64 way] w fun e w' => e = .returned (.tuple #[.float .f64 0, .int .i64 14]) ∧ w = w' := by
  go_enter Try.func34, Try.ntmps34
  go_wp2_with fail
  go_ret2
  exact ⟨rfl, rfl⟩
set_option maxHeartbeats 4000000 in
theorem most_some (A : Option Addr) (n c : Nat) (l : List Nat) (way : Int) (w : World) (h : IsNums w A n c l) (hn : n ≤ 1000) (h0 : ((n : Int) == 0) = false) (hway : way = 1 ∨ way = -1) :
    Calls Try.prog 34 #[.slice A n c, .int .i64 way] w fun e w' => e = .returned (.tuple #[.float .f64 (mostV way l), .int .i64 0]) ∧ Below w.heap.size w w' := by
  have hl := h.len
  have hpos : 0 < n := by have := beq_eq_false_iff_ne.1 h0; omega
  have n0 : (0 : Int) < n := by omega
  obtain ⟨ad, rfl, hb0, hcell0⟩ := h.rd.get (k := 0) (by rw [List.length_map]; omega)
  rw [List.getElem_map] at hcell0
  have hcell00 : w.cell? ad = some (.float .f64 (l[0]'(by omega))) := by have e : ad.add 0 = ad := rfl; rwa [e] at hcell0
  obtain ⟨x0, hx00⟩ : ∃ x, l[0]'(by omega) = x := ⟨_, rfl⟩
  rw [hx00] at hcell00
  have HX0 := Lib.hid (show l.getD 0 0 = x0 by rw [List.getD_eq_getElem?_getD, List.getElem?_eq_getElem (by omega), hx00]; rfl)
  clear hx00 hcell0
  go_enter Try.func34, Try.ntmps34
  go_wp2_with fail
  go_loopw [6, 8, 17] (fun vo _ i wr => ∃ (k o q : Nat), k ≤ n ∧ i = .int .i64 k ∧ vo = .float .f64 o ∧ Hid (o = mostP way l k) ∧ lt64 o ∧ Hid (∀ j, (hj : j < l.length) → j < k → rg l[j] ≤ 9218868437227405312) ∧ wr = w.drewN q) (fun _ _ i _ => n - (intOf i).toNat)
  case atStart => exact ⟨0, x0, 0, Nat.zero_le _, rfl, rfl, HX0.out.symm, HX0.out ▸ getD_lt h.wf 0, (fun j hj hj0 => absurd hj0 (by omega)), rfl⟩
  case round =>
    obtain ⟨k, o, q, hk, rfl, rfl, HO, ho, HA, rfl⟩ := hrel
    clear hcell00
    by_cases hlt : k < n
    · obtain ⟨ad2, had, hbb, hcell⟩ := h.rd.get (k := k) (by rw [List.length_map]; omega)
      obtain rfl : ad = ad2 := by injection had
      clear had
      rw [List.getElem_map] at hcell
      obtain ⟨x, hx0⟩ : ∃ x, l[k]'(by omega) = x := ⟨_, rfl⟩
      rw [hx0] at hcell
      have hx : lt64 x := hx0 ▸ h.wf _ (List.getElem_mem _)
      have HX := Lib.hid hx0
      clear hx0
      have k0 : (0 : Int) ≤ (k : Int) := by omega
      have k1 : (k : Int) < n := by omega
      rcases Nat.lt_or_ge 9218868437227405312 (rg x) with hnan | hnum
      · have t1 := t_ne_nan hnan
        have HN := Lib.hid (show mostV way l = 9221120237041090560 from most_nan (k := k) (by omega) (by rw [HX.out]; exact hnan))
        have HC := Lib.hid (show cn (cn x) = 9221120237041090560 by rw [cn_cn]; exact cn_nan hnan)
        clear hnan
        go_wp2_with (first | (go_at_call 29; refine (bits_any _ _).mono ?_; rintro e w' ⟨rfl, rfl⟩) | (go_at_call 28; refine (from_any _ _).mono ?_; rintro e w' ⟨rfl, rfl⟩))
        go_ret2
        exact ⟨by rw [HN.out, HC.out]; rfl, below_drawn w q⟩
      · have t1 := t_ne_num hnum
        have HP := Lib.hid (mostP_succ (way := way) (l := l) (k := k) (by omega))
        have HN := Lib.hid hnum
        have HA2 := Lib.hid (show ∀ j, (hj : j < l.length) → j < k + 1 → rg l[j] ≤ 9218868437227405312 from fun j hj hj2 => by
          by_cases e : j < k
          · exact HA.out j hj e
          · obtain rfl : j = k := by omega
            rw [HX.out]; exact HN.out)
        clear hnum
        have HT := Lib.hid (show (0 < way * cmpN (keyV x) (keyV o)) ↔ cmpN (keyV x) (keyV o) = way by
          have := cmpN_cases (keyV x) (keyV o)
          rcases hway with e | e <;> rw [e] <;> rcases this with g | g | g <;> rw [g] <;> decide)
        obtain ⟨r, hr⟩ : ∃ r, cmpN (keyV x) (keyV o) = r := ⟨_, rfl⟩
        have HR := Lib.hid hr
        have hr1 : r = -1 ∨ r = 0 ∨ r = 1 := hr ▸ cmpN_cases _ _
        clear hr
        cases hb : decide (0 < way * cmpN (keyV x) (keyV o))
        · have HV := Lib.hid (show mostP way l (k + 1) = o by rw [HP.out, ← HO.out, HX.out]; exact pick_ge hb)
          have t2 : decide (0 < way * r) = false := by rw [← HR.out]; exact hb
          have t3 : (r == way) = false := by rw [beq_eq_false_iff_ne, ← HR.out]; exact fun e => of_decide_eq_false hb (HT.out.2 e)
          have w0 : IntKind.i64.wrap (way * r) = way * r := IntWalk.i64_in _ (by rcases hway with e | e <;> rw [e] <;> omega)
          clear hb
          go_wp2_with fail
          refine (cmp_any _ _ _ hx ho).mono ?_
          rintro e w' ⟨rfl, rfl⟩
          rw [HR.out]
          go_wp2_with fail
          go_roundw
          case rel => exact ⟨k + 1, _, _, by omega, by go_num, rfl, HV.out.symm, ho, HA2.out, rfl⟩
          case measure => simp [intOf]; omega
        · have HV := Lib.hid (show mostP way l (k + 1) = x by rw [HP.out, ← HO.out, HX.out]; exact pick_lt hb)
          have t2 : decide (0 < way * r) = true := by rw [← HR.out]; exact hb
          have t3 : (r == way) = true := by rw [beq_iff_eq, ← HR.out]; exact HT.out.1 (of_decide_eq_true hb)
          have w0 : IntKind.i64.wrap (way * r) = way * r := IntWalk.i64_in _ (by rcases hway with e | e <;> rw [e] <;> omega)
          clear hb
          go_wp2_with fail
          refine (cmp_any _ _ _ hx ho).mono ?_
          rintro e w' ⟨rfl, rfl⟩
          rw [HR.out]
          go_wp2_with fail
          go_roundw
          case rel => exact ⟨k + 1, _, _, by omega, by go_num, rfl, HV.out.symm, hx, HA2.out, rfl⟩
          case measure => simp [intOf]; omega
    · obtain rfl : k = n := by omega
      have HV := Lib.hid (show mostV way l = o by rw [most_all (fun j hj => HA.out j hj (by omega)), hl]; exact HO.out.symm)
      go_wp2_with fail
      go_ret2
      exact ⟨by rw [HV.out]; rfl, ⟨rfl, rfl, rfl, Nat.le_refl _, fun _ _ => rfl⟩⟩
set_option maxHeartbeats 1000000 in
theorem rmost_none (A : Option Addr) (c : Nat) (way : Int) (w : World) :
    Calls Try.prog 19 #[.slice A 0 c, .int .i64 way] w fun e w' => e = .returned (.tuple #[.float .f64 0, .int .i64 14]) ∧ w = w' := by
  go_enter Try.func19, Try.ntmps19
  go_wp2_with fail
  go_ret2
  exact ⟨rfl, rfl⟩
set_option maxHeartbeats 4000000 in
theorem rmost_some (A : Option Addr) (n c : Nat) (l : List Nat) (way : Int) (w : World) (h : IsNums w A n c l) (hn : n ≤ 1000) (h0 : ((n : Int) == 0) = false) (hway : way = 1 ∨ way = -1) :
    Calls Try.prog 19 #[.slice A n c, .int .i64 way] w fun e w' => e = .returned (.tuple #[.float .f64 (mostV way l), .int .i64 0]) ∧ Below w.heap.size w w' := by
  have hl := h.len
  have hpos : 0 < n := by have := beq_eq_false_iff_ne.1 h0; omega
  have n0 : (0 : Int) < n := by omega
  obtain ⟨ad, rfl, hb0, hcell0⟩ := h.rd.get (k := 0) (by rw [List.length_map]; omega)
  rw [List.getElem_map] at hcell0
  have hcell00 : w.cell? ad = some (.float .f64 (l[0]'(by omega))) := by have e : ad.add 0 = ad := rfl; rwa [e] at hcell0
  obtain ⟨x0, hx00⟩ : ∃ x, l[0]'(by omega) = x := ⟨_, rfl⟩
  rw [hx00] at hcell00
  have HX0 := Lib.hid (show l.getD 0 0 = x0 by rw [List.getD_eq_getElem?_getD, List.getElem?_eq_getElem (by omega), hx00]; rfl)
  clear hx00 hcell0
  go_enter Try.func19, Try.ntmps19
  go_wp2_with fail
  go_loopw [6, 7] (fun vo i wr => ∃ (k o q : Nat), k ≤ n ∧ i = .int .i64 k ∧ vo = .float .f64 o ∧ Hid (o = mostP way l k) ∧ lt64 o ∧ Hid (∀ j, (hj : j < l.length) → j < k → rg l[j] ≤ 9218868437227405312) ∧ wr = w.drewN q) (fun _ i _ => n - (intOf i).toNat)
  case atStart => exact ⟨0, x0, 0, Nat.zero_le _, rfl, rfl, HX0.out.symm, HX0.out ▸ getD_lt h.wf 0, (fun j hj hj0 => absurd hj0 (by omega)), rfl⟩
  case round =>
    obtain ⟨k, o, q, hk, rfl, rfl, HO, ho, HA, rfl⟩ := hrel
    clear hcell00
    by_cases hlt : k < n
    · obtain ⟨ad2, had, hbb, hcell⟩ := h.rd.get (k := k) (by rw [List.length_map]; omega)
      obtain rfl : ad = ad2 := by injection had
      clear had
      rw [List.getElem_map] at hcell
      obtain ⟨x, hx0⟩ : ∃ x, l[k]'(by omega) = x := ⟨_, rfl⟩
      rw [hx0] at hcell
      have hx : lt64 x := hx0 ▸ h.wf _ (List.getElem_mem _)
      have HX := Lib.hid hx0
      clear hx0
      have k0 : (0 : Int) ≤ (k : Int) := by omega
      have k1 : (k : Int) < n := by omega
      rcases Nat.lt_or_ge 9218868437227405312 (rg x) with hnan | hnum
      · have t1 := t_ne_nan hnan
        have HN := Lib.hid (show mostV way l = 9221120237041090560 from most_nan (k := k) (by omega) (by rw [HX.out]; exact hnan))
        have HC := Lib.hid (show cn (cn x) = 9221120237041090560 by rw [cn_cn]; exact cn_nan hnan)
        clear hnan
        go_wp2_with fail
        refine wp_region_held_drew (S := Drawn w) (by kernel_rfl) (by first | exact Drawn.of _ _ | exact Drawn.one _) (fun hHeld => ?_)
        refine wpAnyH_take (i := 0) (v := ?v10_0) (by simp only [List.getElem?_toArray, List.getElem?_cons_succ, List.getElem?_cons_zero]; rfl) (by kernel_rfl) (by kernel_rfl) (by kernel_rfl) (by exact fun _ _ _ h => h) (Or.inl ⟨by rfl, ?h10_0⟩) hHeld ?_
        case h10_0 => (intro w' hSw; obtain ⟨m, rfl⟩ := hSw; go_simp <;> with_reducible rfl)
        try simp only [Act.put, List.setIfInBounds_toArray, List.set_cons_zero, List.set_cons_succ]
        refine wpAnyH_take (i := 1) (v := ?v11_1) (by simp only [List.getElem?_toArray, List.getElem?_cons_succ, List.getElem?_cons_zero]; rfl) (by kernel_rfl) (by kernel_rfl) (by kernel_rfl) (by exact fun _ _ _ h => h) (Or.inl ⟨by rfl, ?h11_1⟩) hHeld ?_
        case h11_1 => (intro w' hSw; obtain ⟨m, rfl⟩ := hSw; go_simp <;> with_reducible rfl)
        try simp only [Act.put, List.setIfInBounds_toArray, List.set_cons_zero, List.set_cons_succ]
        refine wpAnyH_take (i := 2) (v := ?v12_2) (by simp only [List.getElem?_toArray, List.getElem?_cons_succ, List.getElem?_cons_zero]; rfl) (by kernel_rfl) (by kernel_rfl) (by kernel_rfl) (by exact fun _ _ _ h => h) (Or.inl ⟨by rfl, ?h12_2⟩) hHeld ?_
        case h12_2 => (intro w' hSw; obtain ⟨m, rfl⟩ := hSw; go_simp <;> with_reducible rfl)
        try simp only [Act.put, List.setIfInBounds_toArray, List.set_cons_zero, List.set_cons_succ]
        refine wpAnyH_take (i := 3) (v := ?v13_3) (by simp only [List.getElem?_toArray, List.getElem?_cons_succ, List.getElem?_cons_zero]; rfl) (by kernel_rfl) (by kernel_rfl) (by kernel_rfl) (by exact fun _ _ _ h => h) (Or.inl ⟨by rfl, ?h13_3⟩) hHeld ?_
        case h13_3 => (intro w' hSw; obtain ⟨m, rfl⟩ := hSw; go_simp <;> with_reducible rfl)
        try simp only [Act.put, List.setIfInBounds_toArray, List.set_cons_zero, List.set_cons_succ]
        refine wpAnyH_take (i := 4) (v := ?v14_4) (by simp only [List.getElem?_toArray, List.getElem?_cons_succ, List.getElem?_cons_zero]; rfl) (by kernel_rfl) (by kernel_rfl) (by kernel_rfl) (by exact fun _ _ _ h => h) (Or.inl ⟨by rfl, ?h14_4⟩) hHeld ?_
        case h14_4 => (intro w' hSw; obtain ⟨m, rfl⟩ := hSw; go_simp <;> with_reducible rfl)
        try simp only [Act.put, List.setIfInBounds_toArray, List.set_cons_zero, List.set_cons_succ]
        refine wpAnyH_take (i := 5) (v := ?v15_5) (by simp only [List.getElem?_toArray, List.getElem?_cons_succ, List.getElem?_cons_zero]; rfl) (by kernel_rfl) (by kernel_rfl) (by kernel_rfl) (by exact fun _ _ _ h => h) (Or.inl ⟨by rfl, ?h15_5⟩) hHeld ?_
        case h15_5 => (intro w' hSw; obtain ⟨m, rfl⟩ := hSw; go_simp <;> with_reducible rfl)
        try simp only [Act.put, List.setIfInBounds_toArray, List.set_cons_zero, List.set_cons_succ]
        refine wpAnyH_take (i := 6) (v := ?v16_6) (by simp only [List.getElem?_toArray, List.getElem?_cons_succ, List.getElem?_cons_zero]; rfl) (by kernel_rfl) (by kernel_rfl) (by kernel_rfl) (by exact fun _ _ _ h => h) (Or.inl ⟨by rfl, ?h16_6⟩) hHeld ?_
        case h16_6 => (intro w' hSw; obtain ⟨m, rfl⟩ := hSw; go_simp <;> with_reducible rfl)
        try simp only [Act.put, List.setIfInBounds_toArray, List.set_cons_zero, List.set_cons_succ]
        refine wpAnyH_take (i := 7) (v := ?v17_7) (by simp only [List.getElem?_toArray, List.getElem?_cons_succ, List.getElem?_cons_zero]; rfl) (by kernel_rfl) (by kernel_rfl) (by kernel_rfl) (by exact fun _ _ _ h => h) (Or.inl ⟨by rfl, ?h17_7⟩) hHeld ?_
        case h17_7 => (intro w' hSw; obtain ⟨m, rfl⟩ := hSw; go_simp <;> with_reducible rfl)
        try simp only [Act.put, List.setIfInBounds_toArray, List.set_cons_zero, List.set_cons_succ]
        refine wpAnyH_take (i := 8) (v := ?v18_8) (by simp only [List.getElem?_toArray, List.getElem?_cons_succ, List.getElem?_cons_zero]; rfl) (by kernel_rfl) (by kernel_rfl) (by kernel_rfl) (by exact fun _ _ _ h => h) (Or.inl ⟨by rfl, ?h18_8⟩) hHeld ?_
        case h18_8 => (intro w' hSw; obtain ⟨m, rfl⟩ := hSw; go_simp <;> with_reducible rfl)
        try simp only [Act.put, List.setIfInBounds_toArray, List.set_cons_zero, List.set_cons_succ]
        refine wpAnyH_done (by kernel_rfl) ?_ _
        go_wp2_with (go_at_call 27; refine (rfrom_any 9221120237041090560 _ (by omega)).mono ?_; rintro e w' ⟨rfl, rfl⟩)
        go_ret2
        exact ⟨by rw [HN.out]; rfl, ⟨rfl, rfl, rfl, Nat.le_refl _, fun _ _ => rfl⟩⟩
      · have t1 := t_ne_num hnum
        have HP := Lib.hid (mostP_succ (way := way) (l := l) (k := k) (by omega))
        have HN := Lib.hid hnum
        have HA2 := Lib.hid (show ∀ j, (hj : j < l.length) → j < k + 1 → rg l[j] ≤ 9218868437227405312 from fun j hj hj2 => by
          by_cases e : j < k
          · exact HA.out j hj e
          · obtain rfl : j = k := by omega
            rw [HX.out]; exact HN.out)
        clear hnum
        have HT := Lib.hid (show (0 < way * cmpN (keyV x) (keyV o)) ↔ cmpN (keyV x) (keyV o) = way by
          have := cmpN_cases (keyV x) (keyV o)
          rcases hway with e | e <;> rw [e] <;> rcases this with g | g | g <;> rw [g] <;> decide)
        obtain ⟨r, hr⟩ : ∃ r, cmpN (keyV x) (keyV o) = r := ⟨_, rfl⟩
        have HR := Lib.hid hr
        have hr1 : r = -1 ∨ r = 0 ∨ r = 1 := hr ▸ cmpN_cases _ _
        clear hr
        cases hb : decide (0 < way * cmpN (keyV x) (keyV o))
        · have HV := Lib.hid (show mostP way l (k + 1) = o by rw [HP.out, ← HO.out, HX.out]; exact pick_ge hb)
          have t2 : decide (0 < way * r) = false := by rw [← HR.out]; exact hb
          have t3 : (r == way) = false := by rw [beq_eq_false_iff_ne, ← HR.out]; exact fun e => of_decide_eq_false hb (HT.out.2 e)
          have w0 : IntKind.i64.wrap (way * r) = way * r := IntWalk.i64_in _ (by rcases hway with e | e <;> rw [e] <;> omega)
          clear hb
          go_wp2_with fail
          refine wp_region_held_drew (S := Drawn w) (by kernel_rfl) (by first | exact Drawn.of _ _ | exact Drawn.one _) (fun hHeld => ?_)
          refine wpAnyH_take (i := 0) (v := ?v19_0) (by simp only [List.getElem?_toArray, List.getElem?_cons_succ, List.getElem?_cons_zero]; rfl) (by kernel_rfl) (by kernel_rfl) (by kernel_rfl) (by exact fun _ _ _ h => h) (Or.inl ⟨by rfl, ?h19_0⟩) hHeld ?_
          case h19_0 => (intro w' hSw; obtain ⟨m, rfl⟩ := hSw; go_simp <;> with_reducible rfl)
          try simp only [Act.put, List.setIfInBounds_toArray, List.set_cons_zero, List.set_cons_succ]
          refine wpAnyH_take (i := 1) (v := ?v20_1) (by simp only [List.getElem?_toArray, List.getElem?_cons_succ, List.getElem?_cons_zero]; rfl) (by kernel_rfl) (by kernel_rfl) (by kernel_rfl) (by exact fun _ _ _ h => h) (Or.inl ⟨by rfl, ?h20_1⟩) hHeld ?_
          case h20_1 => (intro w' hSw; obtain ⟨m, rfl⟩ := hSw; go_simp <;> with_reducible rfl)
          try simp only [Act.put, List.setIfInBounds_toArray, List.set_cons_zero, List.set_cons_succ]
          refine wpAnyH_take (i := 2) (v := ?v21_2) (by simp only [List.getElem?_toArray, List.getElem?_cons_succ, List.getElem?_cons_zero]; rfl) (by kernel_rfl) (by kernel_rfl) (by kernel_rfl) (by exact fun _ _ _ h => h) (Or.inl ⟨by rfl, ?h21_2⟩) hHeld ?_
          case h21_2 => (intro w' hSw; obtain ⟨m, rfl⟩ := hSw; go_simp <;> with_reducible rfl)
          try simp only [Act.put, List.setIfInBounds_toArray, List.set_cons_zero, List.set_cons_succ]
          refine wpAnyH_take (i := 3) (v := ?v22_3) (by simp only [List.getElem?_toArray, List.getElem?_cons_succ, List.getElem?_cons_zero]; rfl) (by kernel_rfl) (by kernel_rfl) (by kernel_rfl) (by exact fun _ _ _ h => h) (Or.inl ⟨by rfl, ?h22_3⟩) hHeld ?_
          case h22_3 => (intro w' hSw; obtain ⟨m, rfl⟩ := hSw; go_simp <;> with_reducible rfl)
          try simp only [Act.put, List.setIfInBounds_toArray, List.set_cons_zero, List.set_cons_succ]
          refine wpAnyH_take (i := 4) (v := ?v23_4) (by simp only [List.getElem?_toArray, List.getElem?_cons_succ, List.getElem?_cons_zero]; rfl) (by kernel_rfl) (by kernel_rfl) (by kernel_rfl) (by exact fun _ _ _ h => h) (Or.inl ⟨by rfl, ?h23_4⟩) hHeld ?_
          case h23_4 => (intro w' hSw; obtain ⟨m, rfl⟩ := hSw; go_simp <;> with_reducible rfl)
          try simp only [Act.put, List.setIfInBounds_toArray, List.set_cons_zero, List.set_cons_succ]
          refine wpAnyH_take (i := 5) (v := ?v24_5) (by simp only [List.getElem?_toArray, List.getElem?_cons_succ, List.getElem?_cons_zero]; rfl) (by kernel_rfl) (by kernel_rfl) (by kernel_rfl) (by exact fun _ _ _ h => h) (Or.inl ⟨by rfl, ?h24_5⟩) hHeld ?_
          case h24_5 => (intro w' hSw; obtain ⟨m, rfl⟩ := hSw; go_simp <;> with_reducible rfl)
          try simp only [Act.put, List.setIfInBounds_toArray, List.set_cons_zero, List.set_cons_succ]
          refine wpAnyH_take (i := 6) (v := ?v25_6) (by simp only [List.getElem?_toArray, List.getElem?_cons_succ, List.getElem?_cons_zero]; rfl) (by kernel_rfl) (by kernel_rfl) (by kernel_rfl) (by exact fun _ _ _ h => h) (Or.inl ⟨by rfl, ?h25_6⟩) hHeld ?_
          case h25_6 => (intro w' hSw; obtain ⟨m, rfl⟩ := hSw; go_simp <;> with_reducible rfl)
          try simp only [Act.put, List.setIfInBounds_toArray, List.set_cons_zero, List.set_cons_succ]
          refine wpAnyH_take (i := 7) (v := ?v26_7) (by simp only [List.getElem?_toArray, List.getElem?_cons_succ, List.getElem?_cons_zero]; rfl) (by kernel_rfl) (by kernel_rfl) (by kernel_rfl) (by exact fun _ _ _ h => h) (Or.inl ⟨by rfl, ?h26_7⟩) hHeld ?_
          case h26_7 => (intro w' hSw; obtain ⟨m, rfl⟩ := hSw; go_simp <;> with_reducible rfl)
          try simp only [Act.put, List.setIfInBounds_toArray, List.set_cons_zero, List.set_cons_succ]
          refine wpAnyH_take (i := 8) (v := ?v27_8) (by simp only [List.getElem?_toArray, List.getElem?_cons_succ, List.getElem?_cons_zero]; rfl) (by kernel_rfl) (by kernel_rfl) (by kernel_rfl) (by exact fun _ _ _ h => h) (Or.inl ⟨by rfl, ?h27_8⟩) hHeld ?_
          case h27_8 => (intro w' hSw; obtain ⟨m, rfl⟩ := hSw; go_simp <;> with_reducible rfl)
          try simp only [Act.put, List.setIfInBounds_toArray, List.set_cons_zero, List.set_cons_succ]
          refine wpAnyH_done (by kernel_rfl) ?_ _
          go_wp2_with fail
          refine (rcmp_any _ _ _ hx ho).mono ?_
          rintro e w' ⟨rfl, rfl⟩
          rw [HR.out]
          go_wp2_with fail
          go_roundw
          case rel => exact ⟨k + 1, _, _, by omega, by go_num, rfl, HV.out.symm, ho, HA2.out, rfl⟩
          case measure => simp [intOf]; omega
        · have HV := Lib.hid (show mostP way l (k + 1) = x by rw [HP.out, ← HO.out, HX.out]; exact pick_lt hb)
          have t2 : decide (0 < way * r) = true := by rw [← HR.out]; exact hb
          have t3 : (r == way) = true := by rw [beq_iff_eq, ← HR.out]; exact HT.out.1 (of_decide_eq_true hb)
          have w0 : IntKind.i64.wrap (way * r) = way * r := IntWalk.i64_in _ (by rcases hway with e | e <;> rw [e] <;> omega)
          clear hb
          go_wp2_with fail
          refine wp_region_held_drew (S := Drawn w) (by kernel_rfl) (by first | exact Drawn.of _ _ | exact Drawn.one _) (fun hHeld => ?_)
          refine wpAnyH_take (i := 0) (v := ?v28_0) (by simp only [List.getElem?_toArray, List.getElem?_cons_succ, List.getElem?_cons_zero]; rfl) (by kernel_rfl) (by kernel_rfl) (by kernel_rfl) (by exact fun _ _ _ h => h) (Or.inl ⟨by rfl, ?h28_0⟩) hHeld ?_
          case h28_0 => (intro w' hSw; obtain ⟨m, rfl⟩ := hSw; go_simp <;> with_reducible rfl)
          try simp only [Act.put, List.setIfInBounds_toArray, List.set_cons_zero, List.set_cons_succ]
          refine wpAnyH_take (i := 1) (v := ?v29_1) (by simp only [List.getElem?_toArray, List.getElem?_cons_succ, List.getElem?_cons_zero]; rfl) (by kernel_rfl) (by kernel_rfl) (by kernel_rfl) (by exact fun _ _ _ h => h) (Or.inl ⟨by rfl, ?h29_1⟩) hHeld ?_
          case h29_1 => (intro w' hSw; obtain ⟨m, rfl⟩ := hSw; go_simp <;> with_reducible rfl)
          try simp only [Act.put, List.setIfInBounds_toArray, List.set_cons_zero, List.set_cons_succ]
          refine wpAnyH_take (i := 2) (v := ?v30_2) (by simp only [List.getElem?_toArray, List.getElem?_cons_succ, List.getElem?_cons_zero]; rfl) (by kernel_rfl) (by kernel_rfl) (by kernel_rfl) (by exact fun _ _ _ h => h) (Or.inl ⟨by rfl, ?h30_2⟩) hHeld ?_
          case h30_2 => (intro w' hSw; obtain ⟨m, rfl⟩ := hSw; go_simp <;> with_reducible rfl)
          try simp only [Act.put, List.setIfInBounds_toArray, List.set_cons_zero, List.set_cons_succ]
          refine wpAnyH_take (i := 3) (v := ?v31_3) (by simp only [List.getElem?_toArray, List.getElem?_cons_succ, List.getElem?_cons_zero]; rfl) (by kernel_rfl) (by kernel_rfl) (by kernel_rfl) (by exact fun _ _ _ h => h) (Or.inl ⟨by rfl, ?h31_3⟩) hHeld ?_
          case h31_3 => (intro w' hSw; obtain ⟨m, rfl⟩ := hSw; go_simp <;> with_reducible rfl)
          try simp only [Act.put, List.setIfInBounds_toArray, List.set_cons_zero, List.set_cons_succ]
          refine wpAnyH_take (i := 4) (v := ?v32_4) (by simp only [List.getElem?_toArray, List.getElem?_cons_succ, List.getElem?_cons_zero]; rfl) (by kernel_rfl) (by kernel_rfl) (by kernel_rfl) (by exact fun _ _ _ h => h) (Or.inl ⟨by rfl, ?h32_4⟩) hHeld ?_
          case h32_4 => (intro w' hSw; obtain ⟨m, rfl⟩ := hSw; go_simp <;> with_reducible rfl)
          try simp only [Act.put, List.setIfInBounds_toArray, List.set_cons_zero, List.set_cons_succ]
          refine wpAnyH_take (i := 5) (v := ?v33_5) (by simp only [List.getElem?_toArray, List.getElem?_cons_succ, List.getElem?_cons_zero]; rfl) (by kernel_rfl) (by kernel_rfl) (by kernel_rfl) (by exact fun _ _ _ h => h) (Or.inl ⟨by rfl, ?h33_5⟩) hHeld ?_
          case h33_5 => (intro w' hSw; obtain ⟨m, rfl⟩ := hSw; go_simp <;> with_reducible rfl)
          try simp only [Act.put, List.setIfInBounds_toArray, List.set_cons_zero, List.set_cons_succ]
          refine wpAnyH_take (i := 6) (v := ?v34_6) (by simp only [List.getElem?_toArray, List.getElem?_cons_succ, List.getElem?_cons_zero]; rfl) (by kernel_rfl) (by kernel_rfl) (by kernel_rfl) (by exact fun _ _ _ h => h) (Or.inl ⟨by rfl, ?h34_6⟩) hHeld ?_
          case h34_6 => (intro w' hSw; obtain ⟨m, rfl⟩ := hSw; go_simp <;> with_reducible rfl)
          try simp only [Act.put, List.setIfInBounds_toArray, List.set_cons_zero, List.set_cons_succ]
          refine wpAnyH_take (i := 7) (v := ?v35_7) (by simp only [List.getElem?_toArray, List.getElem?_cons_succ, List.getElem?_cons_zero]; rfl) (by kernel_rfl) (by kernel_rfl) (by kernel_rfl) (by exact fun _ _ _ h => h) (Or.inl ⟨by rfl, ?h35_7⟩) hHeld ?_
          case h35_7 => (intro w' hSw; obtain ⟨m, rfl⟩ := hSw; go_simp <;> with_reducible rfl)
          try simp only [Act.put, List.setIfInBounds_toArray, List.set_cons_zero, List.set_cons_succ]
          refine wpAnyH_take (i := 8) (v := ?v36_8) (by simp only [List.getElem?_toArray, List.getElem?_cons_succ, List.getElem?_cons_zero]; rfl) (by kernel_rfl) (by kernel_rfl) (by kernel_rfl) (by exact fun _ _ _ h => h) (Or.inl ⟨by rfl, ?h36_8⟩) hHeld ?_
          case h36_8 => (intro w' hSw; obtain ⟨m, rfl⟩ := hSw; go_simp <;> with_reducible rfl)
          try simp only [Act.put, List.setIfInBounds_toArray, List.set_cons_zero, List.set_cons_succ]
          refine wpAnyH_done (by kernel_rfl) ?_ _
          go_wp2_with fail
          refine (rcmp_any _ _ _ hx ho).mono ?_
          rintro e w' ⟨rfl, rfl⟩
          rw [HR.out]
          go_wp2_with fail
          go_roundw
          case rel => exact ⟨k + 1, _, _, by omega, by go_num, rfl, HV.out.symm, hx, HA2.out, rfl⟩
          case measure => simp [intOf]; omega
    · obtain rfl : k = n := by omega
      have HV := Lib.hid (show mostV way l = o by rw [most_all (fun j hj => HA.out j hj (by omega)), hl]; exact HO.out.symm)
      go_wp2_with fail
      go_ret2
      exact ⟨by rw [HV.out]; rfl, ⟨rfl, rfl, rfl, Nat.le_refl _, fun _ _ => rfl⟩⟩
set_option maxHeartbeats 1000000 in
theorem min_none (A : Option Addr) (c : Nat) (w : World) :
    Calls Try.prog 18 #[.slice A 0 c] w fun e w' => e = .returned (.tuple #[.float .f64 0, .int .i64 14]) ∧ w = w' := by
  go_enter Try.func18, Try.ntmps18
  go_wp2_with fail
  refine (most_none _ _ (-1) _).mono ?_
  rintro e w' ⟨rfl, rfl⟩
  go_wp2_with fail
  go_ret2
  exact ⟨rfl, rfl⟩
set_option maxHeartbeats 1000000 in
theorem min_some (A : Option Addr) (n c : Nat) (l : List Nat) (w : World) (h : IsNums w A n c l) (hn : n ≤ 1000) (h0 : ((n : Int) == 0) = false) :
    Calls Try.prog 18 #[.slice A n c] w fun e w' => e = .returned (.tuple #[.float .f64 (mostV (-1) l), .int .i64 0]) ∧ Below w.heap.size w w' := by
  go_enter Try.func18, Try.ntmps18
  go_wp2_with fail
  refine (most_some _ _ _ _ (-1) _ h hn h0 (by decide)).mono ?_
  rintro e w1 ⟨rfl, hb1⟩
  go_wp2_with fail
  go_ret2
  exact ⟨rfl, hb1⟩
set_option maxHeartbeats 1000000 in
theorem max_none (A : Option Addr) (c : Nat) (w : World) :
    Calls Try.prog 20 #[.slice A 0 c] w fun e w' => e = .returned (.tuple #[.float .f64 0, .int .i64 14]) ∧ w = w' := by
  go_enter Try.func20, Try.ntmps20
  go_wp2_with fail
  refine (most_none _ _ 1 _).mono ?_
  rintro e w' ⟨rfl, rfl⟩
  go_wp2_with fail
  go_ret2
  exact ⟨rfl, rfl⟩
set_option maxHeartbeats 1000000 in
theorem max_some (A : Option Addr) (n c : Nat) (l : List Nat) (w : World) (h : IsNums w A n c l) (hn : n ≤ 1000) (h0 : ((n : Int) == 0) = false) :
    Calls Try.prog 20 #[.slice A n c] w fun e w' => e = .returned (.tuple #[.float .f64 (mostV 1 l), .int .i64 0]) ∧ Below w.heap.size w w' := by
  go_enter Try.func20, Try.ntmps20
  go_wp2_with fail
  refine (most_some _ _ _ _ 1 _ h hn h0 (by decide)).mono ?_
  rintro e w1 ⟨rfl, hb1⟩
  go_wp2_with fail
  go_ret2
  exact ⟨rfl, hb1⟩
end Go.Proofs.Yteekeoenbackcaa.So
