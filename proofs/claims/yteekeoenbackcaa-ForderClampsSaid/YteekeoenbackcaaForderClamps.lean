/- ForderClamps: the walk. For every three numbers the law returns true, and nothing that was there is written. No condition. -/
import Derived.Test.YteekeoenbackcaaForderLine
namespace Go.Proofs.Yteekeoenbackcaa.So
set_option linter.unusedSimpArgs false
set_option linter.unusedVariables false
open Go.RowKit Go.Sort Go.Lib Fl Fb
attribute [local go_sem] u64_unsigned

set_option maxHeartbeats 1000000 in
theorem clamp_z (x lo hi z : Nat) (w : World) (hx : lt64 x) (hlo : lt64 lo) (hhi : lt64 hi) (hz : clampV x lo hi = z) :
    Calls Try.prog 23 #[.float .f64 x, .float .f64 lo, .float .f64 hi] w fun e w' => e = .returned (.float .f64 z) ∧ w = w' := by
  subst hz; exact clamp_any x lo hi w hx hlo hhi
set_option maxHeartbeats 1000000 in
theorem rcmp_z (x y : Nat) (z : Int) (w : World) (hx : lt64 x) (hy : lt64 y) (hz : cmpN (keyV x) (keyV y) = z) :
    Calls Try.prog 21 #[.float .f64 x, .float .f64 y] w fun e w' => e = .returned (.int .i64 z) ∧ w = w' := by
  subst hz; exact rcmp_any x y w hx hy
set_option maxHeartbeats 1000000 in
theorem cl_nx (x lo hi : Nat) (w : World) (hx : lt64 x) (hlo : lt64 lo) (hhi : lt64 hi) (h : 9218868437227405312 < rg x) :
    Calls Try.prog 8 #[.float .f64 x, .float .f64 lo, .float .f64 hi] w fun e w' => e = .returned (.bool true) ∧ Below w.heap.size w w' := by
  have nc : (FloatKind.f64.format.order 9221120237041090560 9221120237041090560 != some .eq) = true := by decide
  have n_x := t_ne_nan h
  have H := Lib.hid h
  clear h
  go_enter Try.func8, Try.ntmps8
  go_wp2_with fail
  refine (clamp_z x lo hi 9221120237041090560 _ hx hlo hhi (clamp_nx H.out)).mono ?_
  rintro e w' ⟨rfl, rfl⟩
  go_wp2_with fail
  refine (awake_any _).mono ?_
  rintro e wz ⟨rfl, hbz⟩
  go_wp2_with fail
  go_ret
  exact ⟨rfl, hbz⟩
set_option maxHeartbeats 1000000 in
theorem cl_nl (x lo hi : Nat) (w : World) (hx : lt64 x) (hlo : lt64 lo) (hhi : lt64 hi) (h_x : rg x ≤ 9218868437227405312) (h : 9218868437227405312 < rg lo) :
    Calls Try.prog 8 #[.float .f64 x, .float .f64 lo, .float .f64 hi] w fun e w' => e = .returned (.bool true) ∧ Below w.heap.size w w' := by
  have nc : (FloatKind.f64.format.order 9221120237041090560 9221120237041090560 != some .eq) = true := by decide
  have n_x := t_ne_num h_x
  have n_l := t_ne_nan h
  have H := Lib.hid h
  have H_X := Lib.hid h_x
  clear h h_x
  go_enter Try.func8, Try.ntmps8
  go_wp2_with fail
  refine (clamp_z x lo hi 9221120237041090560 _ hx hlo hhi (clamp_nl H.out)).mono ?_
  rintro e w' ⟨rfl, rfl⟩
  go_wp2_with fail
  refine (awake_any _).mono ?_
  rintro e wz ⟨rfl, hbz⟩
  go_wp2_with fail
  go_ret
  exact ⟨rfl, hbz⟩
set_option maxHeartbeats 1000000 in
theorem cl_nh (x lo hi : Nat) (w : World) (hx : lt64 x) (hlo : lt64 lo) (hhi : lt64 hi) (h_x : rg x ≤ 9218868437227405312) (h_lo : rg lo ≤ 9218868437227405312) (h : 9218868437227405312 < rg hi) :
    Calls Try.prog 8 #[.float .f64 x, .float .f64 lo, .float .f64 hi] w fun e w' => e = .returned (.bool true) ∧ Below w.heap.size w w' := by
  have nc : (FloatKind.f64.format.order 9221120237041090560 9221120237041090560 != some .eq) = true := by decide
  have n_x := t_ne_num h_x
  have n_lo := t_ne_num h_lo
  have n_h := t_ne_nan h
  have H := Lib.hid h
  have H_X := Lib.hid h_x
  have H_LO := Lib.hid h_lo
  clear h h_x h_lo
  go_enter Try.func8, Try.ntmps8
  go_wp2_with fail
  refine (clamp_z x lo hi 9221120237041090560 _ hx hlo hhi (clamp_nh H.out)).mono ?_
  rintro e w' ⟨rfl, rfl⟩
  go_wp2_with fail
  refine (awake_any _).mono ?_
  rintro e wz ⟨rfl, hbz⟩
  go_wp2_with fail
  go_ret
  exact ⟨rfl, hbz⟩
set_option maxHeartbeats 1000000 in
theorem cl_no (x lo hi : Nat) (w : World) (hx : lt64 x) (hlo : lt64 lo) (hhi : lt64 hi) (h_x : rg x ≤ 9218868437227405312) (h_lo : rg lo ≤ 9218868437227405312) (h_hi : rg hi ≤ 9218868437227405312) (h : keyV hi < keyV lo) :
    Calls Try.prog 8 #[.float .f64 x, .float .f64 lo, .float .f64 hi] w fun e w' => e = .returned (.bool true) ∧ Below w.heap.size w w' := by
  have nc : (FloatKind.f64.format.order 9221120237041090560 9221120237041090560 != some .eq) = true := by decide
  have n_x := t_ne_num h_x
  have n_lo := t_ne_num h_lo
  have n_hi := t_ne_num h_hi
  have H := Lib.hid h
  have H_X := Lib.hid h_x
  have H_LO := Lib.hid h_lo
  have H_HI := Lib.hid h_hi
  clear h h_x h_lo h_hi
  go_enter Try.func8, Try.ntmps8
  go_wp2_with fail
  refine (clamp_z x lo hi 9221120237041090560 _ hx hlo hhi (clamp_no H.out)).mono ?_
  rintro e w' ⟨rfl, rfl⟩
  go_wp2_with fail
  refine (rcmp_z lo hi 1 _ hlo hhi (cz_gt H.out)).mono ?_
  rintro e w' ⟨rfl, rfl⟩
  go_wp2_with fail
  refine (awake_any _).mono ?_
  rintro e wz ⟨rfl, hbz⟩
  go_wp2_with fail
  go_ret
  exact ⟨rfl, hbz⟩
set_option maxHeartbeats 1000000 in
theorem cl_ltltlt (x lo hi : Nat) (w : World) (hx : lt64 x) (hlo : lt64 lo) (hhi : lt64 hi) (h_x : rg x ≤ 9218868437227405312) (h_lo : rg lo ≤ 9218868437227405312) (h_hi : rg hi ≤ 9218868437227405312) (h1 : keyV lo < keyV hi) (h2 : keyV lo < keyV x) (h3 : keyV x < keyV hi) :
    Calls Try.prog 8 #[.float .f64 x, .float .f64 lo, .float .f64 hi] w fun e w' => e = .returned (.bool true) ∧ Below w.heap.size w w' := by
  have n_x := t_ne_num h_x
  have n_lo := t_ne_num h_lo
  have n_hi := t_ne_num h_hi
  have H_X := Lib.hid h_x
  have H_LO := Lib.hid h_lo
  have H_HI := Lib.hid h_hi
  have H1 := Lib.hid h1
  have H2 := Lib.hid h2
  have H3 := Lib.hid h3
  clear h_x h_lo h_hi h1 h2 h3
  go_enter Try.func8, Try.ntmps8
  go_wp2_with fail
  refine (clamp_z x lo hi x _ hx hlo hhi (clamp_in H_X.out H_LO.out H_HI.out (by have := H1.out; have := H2.out; have := H3.out; omega) (by have := H1.out; have := H2.out; have := H3.out; omega) (by have := H1.out; have := H2.out; have := H3.out; omega))).mono ?_
  rintro e w' ⟨rfl, rfl⟩
  go_wp2_with fail
  refine (rcmp_z lo hi (-1) _ hlo hhi (cz_lt (by have := H1.out; have := H2.out; have := H3.out; omega))).mono ?_
  rintro e w' ⟨rfl, rfl⟩
  go_wp2_with fail
  refine (rcmp_z lo x (-1) _ hlo hx (cz_lt (by have := H1.out; have := H2.out; have := H3.out; omega))).mono ?_
  rintro e w' ⟨rfl, rfl⟩
  go_wp2_with fail
  refine (rcmp_z x hi (-1) _ hx hhi (cz_lt (by have := H1.out; have := H2.out; have := H3.out; omega))).mono ?_
  rintro e w' ⟨rfl, rfl⟩
  go_wp2_with fail
  refine (rcmp_z lo x (-1) _ hlo hx (cz_lt (by have := H1.out; have := H2.out; have := H3.out; omega))).mono ?_
  rintro e w' ⟨rfl, rfl⟩
  go_wp2_with fail
  refine (rcmp_z x hi (-1) _ hx hhi (cz_lt (by have := H1.out; have := H2.out; have := H3.out; omega))).mono ?_
  rintro e w' ⟨rfl, rfl⟩
  go_wp2_with fail
  refine (same_z x x true _ (sameB_yes rfl)).mono ?_
  rintro e w' ⟨rfl, rfl⟩
  go_wp2_with fail
  refine (clamp_z x lo hi x _ hx hlo hhi (clamp_in H_X.out H_LO.out H_HI.out (by have := H1.out; have := H2.out; have := H3.out; omega) (by have := H1.out; have := H2.out; have := H3.out; omega) (by have := H1.out; have := H2.out; have := H3.out; omega))).mono ?_
  rintro e w' ⟨rfl, rfl⟩
  go_wp2_with fail
  refine (same_z x x true _ (sameB_yes rfl)).mono ?_
  rintro e w' ⟨rfl, rfl⟩
  go_wp2_with fail
  refine (awake_any _).mono ?_
  rintro e wz ⟨rfl, hbz⟩
  go_wp2_with fail
  go_ret
  exact ⟨rfl, hbz⟩
set_option maxHeartbeats 1000000 in
theorem cl_ltlteq (x lo hi : Nat) (w : World) (hx : lt64 x) (hlo : lt64 lo) (hhi : lt64 hi) (h_x : rg x ≤ 9218868437227405312) (h_lo : rg lo ≤ 9218868437227405312) (h_hi : rg hi ≤ 9218868437227405312) (h1 : keyV lo < keyV hi) (h2 : keyV lo < keyV x) (h3 : keyV x = keyV hi) :
    Calls Try.prog 8 #[.float .f64 x, .float .f64 lo, .float .f64 hi] w fun e w' => e = .returned (.bool true) ∧ Below w.heap.size w w' := by
  have n_x := t_ne_num h_x
  have n_lo := t_ne_num h_lo
  have n_hi := t_ne_num h_hi
  have H_X := Lib.hid h_x
  have H_LO := Lib.hid h_lo
  have H_HI := Lib.hid h_hi
  have H1 := Lib.hid h1
  have H2 := Lib.hid h2
  have H3 := Lib.hid h3
  clear h_x h_lo h_hi h1 h2 h3
  go_enter Try.func8, Try.ntmps8
  go_wp2_with fail
  refine (clamp_z x lo hi x _ hx hlo hhi (clamp_in H_X.out H_LO.out H_HI.out (by have := H1.out; have := H2.out; have := H3.out; omega) (by have := H1.out; have := H2.out; have := H3.out; omega) (by have := H1.out; have := H2.out; have := H3.out; omega))).mono ?_
  rintro e w' ⟨rfl, rfl⟩
  go_wp2_with fail
  refine (rcmp_z lo hi (-1) _ hlo hhi (cz_lt (by have := H1.out; have := H2.out; have := H3.out; omega))).mono ?_
  rintro e w' ⟨rfl, rfl⟩
  go_wp2_with fail
  refine (rcmp_z lo x (-1) _ hlo hx (cz_lt (by have := H1.out; have := H2.out; have := H3.out; omega))).mono ?_
  rintro e w' ⟨rfl, rfl⟩
  go_wp2_with fail
  refine (rcmp_z x hi (0) _ hx hhi (cz_eq (by have := H1.out; have := H2.out; have := H3.out; omega))).mono ?_
  rintro e w' ⟨rfl, rfl⟩
  go_wp2_with fail
  refine (rcmp_z lo x (-1) _ hlo hx (cz_lt (by have := H1.out; have := H2.out; have := H3.out; omega))).mono ?_
  rintro e w' ⟨rfl, rfl⟩
  go_wp2_with fail
  refine (rcmp_z x hi (0) _ hx hhi (cz_eq (by have := H1.out; have := H2.out; have := H3.out; omega))).mono ?_
  rintro e w' ⟨rfl, rfl⟩
  go_wp2_with fail
  refine (same_z x x true _ (sameB_yes rfl)).mono ?_
  rintro e w' ⟨rfl, rfl⟩
  go_wp2_with fail
  refine (clamp_z x lo hi x _ hx hlo hhi (clamp_in H_X.out H_LO.out H_HI.out (by have := H1.out; have := H2.out; have := H3.out; omega) (by have := H1.out; have := H2.out; have := H3.out; omega) (by have := H1.out; have := H2.out; have := H3.out; omega))).mono ?_
  rintro e w' ⟨rfl, rfl⟩
  go_wp2_with fail
  refine (same_z x x true _ (sameB_yes rfl)).mono ?_
  rintro e w' ⟨rfl, rfl⟩
  go_wp2_with fail
  refine (awake_any _).mono ?_
  rintro e wz ⟨rfl, hbz⟩
  go_wp2_with fail
  go_ret
  exact ⟨rfl, hbz⟩
set_option maxHeartbeats 1000000 in
theorem cl_ltltgt (x lo hi : Nat) (w : World) (hx : lt64 x) (hlo : lt64 lo) (hhi : lt64 hi) (h_x : rg x ≤ 9218868437227405312) (h_lo : rg lo ≤ 9218868437227405312) (h_hi : rg hi ≤ 9218868437227405312) (h1 : keyV lo < keyV hi) (h2 : keyV lo < keyV x) (h3 : keyV hi < keyV x) :
    Calls Try.prog 8 #[.float .f64 x, .float .f64 lo, .float .f64 hi] w fun e w' => e = .returned (.bool true) ∧ Below w.heap.size w w' := by
  have n_x := t_ne_num h_x
  have n_lo := t_ne_num h_lo
  have n_hi := t_ne_num h_hi
  have H_X := Lib.hid h_x
  have H_LO := Lib.hid h_lo
  have H_HI := Lib.hid h_hi
  have H1 := Lib.hid h1
  have H2 := Lib.hid h2
  have H3 := Lib.hid h3
  clear h_x h_lo h_hi h1 h2 h3
  go_enter Try.func8, Try.ntmps8
  go_wp2_with fail
  refine (clamp_z x lo hi hi _ hx hlo hhi (clamp_hi H_X.out H_LO.out H_HI.out (by have := H1.out; have := H2.out; have := H3.out; omega) (by have := H1.out; have := H2.out; have := H3.out; omega) (by have := H1.out; have := H2.out; have := H3.out; omega))).mono ?_
  rintro e w' ⟨rfl, rfl⟩
  go_wp2_with fail
  refine (rcmp_z lo hi (-1) _ hlo hhi (cz_lt (by have := H1.out; have := H2.out; have := H3.out; omega))).mono ?_
  rintro e w' ⟨rfl, rfl⟩
  go_wp2_with fail
  refine (rcmp_z lo x (-1) _ hlo hx (cz_lt (by have := H1.out; have := H2.out; have := H3.out; omega))).mono ?_
  rintro e w' ⟨rfl, rfl⟩
  go_wp2_with fail
  refine (rcmp_z x hi (1) _ hx hhi (cz_gt (by have := H1.out; have := H2.out; have := H3.out; omega))).mono ?_
  rintro e w' ⟨rfl, rfl⟩
  go_wp2_with fail
  refine (rcmp_z lo hi (-1) _ hlo hhi (cz_lt (by have := H1.out; have := H2.out; have := H3.out; omega))).mono ?_
  rintro e w' ⟨rfl, rfl⟩
  go_wp2_with fail
  refine (rcmp_z hi hi (0) _ hhi hhi (cz_eq (by have := H1.out; have := H2.out; have := H3.out; omega))).mono ?_
  rintro e w' ⟨rfl, rfl⟩
  go_wp2_with fail
  refine (same_z hi x false _ (by rw [same_key hhi hx]; exact decide_eq_false (by have := H1.out; have := H2.out; have := H3.out; omega))).mono ?_
  rintro e w' ⟨rfl, rfl⟩
  go_wp2_with fail
  refine (clamp_z hi lo hi hi _ hhi hlo hhi (clamp_in H_HI.out H_LO.out H_HI.out (by have := H1.out; have := H2.out; have := H3.out; omega) (by have := H1.out; have := H2.out; have := H3.out; omega) (Nat.le_refl _))).mono ?_
  rintro e w' ⟨rfl, rfl⟩
  go_wp2_with fail
  refine (same_z hi hi true _ (sameB_yes rfl)).mono ?_
  rintro e w' ⟨rfl, rfl⟩
  go_wp2_with fail
  refine (awake_any _).mono ?_
  rintro e wz ⟨rfl, hbz⟩
  go_wp2_with fail
  go_ret
  exact ⟨rfl, hbz⟩
set_option maxHeartbeats 1000000 in
theorem cl_lteqlt (x lo hi : Nat) (w : World) (hx : lt64 x) (hlo : lt64 lo) (hhi : lt64 hi) (h_x : rg x ≤ 9218868437227405312) (h_lo : rg lo ≤ 9218868437227405312) (h_hi : rg hi ≤ 9218868437227405312) (h1 : keyV lo < keyV hi) (h2 : keyV lo = keyV x) (h3 : keyV x < keyV hi) :
    Calls Try.prog 8 #[.float .f64 x, .float .f64 lo, .float .f64 hi] w fun e w' => e = .returned (.bool true) ∧ Below w.heap.size w w' := by
  have n_x := t_ne_num h_x
  have n_lo := t_ne_num h_lo
  have n_hi := t_ne_num h_hi
  have H_X := Lib.hid h_x
  have H_LO := Lib.hid h_lo
  have H_HI := Lib.hid h_hi
  have H1 := Lib.hid h1
  have H2 := Lib.hid h2
  have H3 := Lib.hid h3
  clear h_x h_lo h_hi h1 h2 h3
  go_enter Try.func8, Try.ntmps8
  go_wp2_with fail
  refine (clamp_z x lo hi x _ hx hlo hhi (clamp_in H_X.out H_LO.out H_HI.out (by have := H1.out; have := H2.out; have := H3.out; omega) (by have := H1.out; have := H2.out; have := H3.out; omega) (by have := H1.out; have := H2.out; have := H3.out; omega))).mono ?_
  rintro e w' ⟨rfl, rfl⟩
  go_wp2_with fail
  refine (rcmp_z lo hi (-1) _ hlo hhi (cz_lt (by have := H1.out; have := H2.out; have := H3.out; omega))).mono ?_
  rintro e w' ⟨rfl, rfl⟩
  go_wp2_with fail
  refine (rcmp_z lo x (0) _ hlo hx (cz_eq (by have := H1.out; have := H2.out; have := H3.out; omega))).mono ?_
  rintro e w' ⟨rfl, rfl⟩
  go_wp2_with fail
  refine (rcmp_z x hi (-1) _ hx hhi (cz_lt (by have := H1.out; have := H2.out; have := H3.out; omega))).mono ?_
  rintro e w' ⟨rfl, rfl⟩
  go_wp2_with fail
  refine (rcmp_z lo x (0) _ hlo hx (cz_eq (by have := H1.out; have := H2.out; have := H3.out; omega))).mono ?_
  rintro e w' ⟨rfl, rfl⟩
  go_wp2_with fail
  refine (rcmp_z x hi (-1) _ hx hhi (cz_lt (by have := H1.out; have := H2.out; have := H3.out; omega))).mono ?_
  rintro e w' ⟨rfl, rfl⟩
  go_wp2_with fail
  refine (same_z x x true _ (sameB_yes rfl)).mono ?_
  rintro e w' ⟨rfl, rfl⟩
  go_wp2_with fail
  refine (clamp_z x lo hi x _ hx hlo hhi (clamp_in H_X.out H_LO.out H_HI.out (by have := H1.out; have := H2.out; have := H3.out; omega) (by have := H1.out; have := H2.out; have := H3.out; omega) (by have := H1.out; have := H2.out; have := H3.out; omega))).mono ?_
  rintro e w' ⟨rfl, rfl⟩
  go_wp2_with fail
  refine (same_z x x true _ (sameB_yes rfl)).mono ?_
  rintro e w' ⟨rfl, rfl⟩
  go_wp2_with fail
  refine (awake_any _).mono ?_
  rintro e wz ⟨rfl, hbz⟩
  go_wp2_with fail
  go_ret
  exact ⟨rfl, hbz⟩
set_option maxHeartbeats 1000000 in
theorem cl_ltgtlt (x lo hi : Nat) (w : World) (hx : lt64 x) (hlo : lt64 lo) (hhi : lt64 hi) (h_x : rg x ≤ 9218868437227405312) (h_lo : rg lo ≤ 9218868437227405312) (h_hi : rg hi ≤ 9218868437227405312) (h1 : keyV lo < keyV hi) (h2 : keyV x < keyV lo) (h3 : keyV x < keyV hi) :
    Calls Try.prog 8 #[.float .f64 x, .float .f64 lo, .float .f64 hi] w fun e w' => e = .returned (.bool true) ∧ Below w.heap.size w w' := by
  have n_x := t_ne_num h_x
  have n_lo := t_ne_num h_lo
  have n_hi := t_ne_num h_hi
  have H_X := Lib.hid h_x
  have H_LO := Lib.hid h_lo
  have H_HI := Lib.hid h_hi
  have H1 := Lib.hid h1
  have H2 := Lib.hid h2
  have H3 := Lib.hid h3
  clear h_x h_lo h_hi h1 h2 h3
  go_enter Try.func8, Try.ntmps8
  go_wp2_with fail
  refine (clamp_z x lo hi lo _ hx hlo hhi (clamp_lo H_X.out H_LO.out H_HI.out (by have := H1.out; have := H2.out; have := H3.out; omega) (by have := H1.out; have := H2.out; have := H3.out; omega))).mono ?_
  rintro e w' ⟨rfl, rfl⟩
  go_wp2_with fail
  refine (rcmp_z lo hi (-1) _ hlo hhi (cz_lt (by have := H1.out; have := H2.out; have := H3.out; omega))).mono ?_
  rintro e w' ⟨rfl, rfl⟩
  go_wp2_with fail
  refine (rcmp_z lo x (1) _ hlo hx (cz_gt (by have := H1.out; have := H2.out; have := H3.out; omega))).mono ?_
  rintro e w' ⟨rfl, rfl⟩
  go_wp2_with fail
  refine (rcmp_z lo lo (0) _ hlo hlo (cz_eq (by have := H1.out; have := H2.out; have := H3.out; omega))).mono ?_
  rintro e w' ⟨rfl, rfl⟩
  go_wp2_with fail
  refine (rcmp_z lo hi (-1) _ hlo hhi (cz_lt (by have := H1.out; have := H2.out; have := H3.out; omega))).mono ?_
  rintro e w' ⟨rfl, rfl⟩
  go_wp2_with fail
  refine (same_z lo x false _ (by rw [same_key hlo hx]; exact decide_eq_false (by have := H1.out; have := H2.out; have := H3.out; omega))).mono ?_
  rintro e w' ⟨rfl, rfl⟩
  go_wp2_with fail
  refine (clamp_z lo lo hi lo _ hlo hlo hhi (clamp_in H_LO.out H_LO.out H_HI.out (by have := H1.out; have := H2.out; have := H3.out; omega) (Nat.le_refl _) (by have := H1.out; have := H2.out; have := H3.out; omega))).mono ?_
  rintro e w' ⟨rfl, rfl⟩
  go_wp2_with fail
  refine (same_z lo lo true _ (sameB_yes rfl)).mono ?_
  rintro e w' ⟨rfl, rfl⟩
  go_wp2_with fail
  refine (awake_any _).mono ?_
  rintro e wz ⟨rfl, hbz⟩
  go_wp2_with fail
  go_ret
  exact ⟨rfl, hbz⟩
set_option maxHeartbeats 1000000 in
theorem cl_eqltgt (x lo hi : Nat) (w : World) (hx : lt64 x) (hlo : lt64 lo) (hhi : lt64 hi) (h_x : rg x ≤ 9218868437227405312) (h_lo : rg lo ≤ 9218868437227405312) (h_hi : rg hi ≤ 9218868437227405312) (h1 : keyV lo = keyV hi) (h2 : keyV lo < keyV x) (h3 : keyV hi < keyV x) :
    Calls Try.prog 8 #[.float .f64 x, .float .f64 lo, .float .f64 hi] w fun e w' => e = .returned (.bool true) ∧ Below w.heap.size w w' := by
  have n_x := t_ne_num h_x
  have n_lo := t_ne_num h_lo
  have n_hi := t_ne_num h_hi
  have H_X := Lib.hid h_x
  have H_LO := Lib.hid h_lo
  have H_HI := Lib.hid h_hi
  have H1 := Lib.hid h1
  have H2 := Lib.hid h2
  have H3 := Lib.hid h3
  clear h_x h_lo h_hi h1 h2 h3
  go_enter Try.func8, Try.ntmps8
  go_wp2_with fail
  refine (clamp_z x lo hi hi _ hx hlo hhi (clamp_hi H_X.out H_LO.out H_HI.out (by have := H1.out; have := H2.out; have := H3.out; omega) (by have := H1.out; have := H2.out; have := H3.out; omega) (by have := H1.out; have := H2.out; have := H3.out; omega))).mono ?_
  rintro e w' ⟨rfl, rfl⟩
  go_wp2_with fail
  refine (rcmp_z lo hi (0) _ hlo hhi (cz_eq (by have := H1.out; have := H2.out; have := H3.out; omega))).mono ?_
  rintro e w' ⟨rfl, rfl⟩
  go_wp2_with fail
  refine (rcmp_z lo x (-1) _ hlo hx (cz_lt (by have := H1.out; have := H2.out; have := H3.out; omega))).mono ?_
  rintro e w' ⟨rfl, rfl⟩
  go_wp2_with fail
  refine (rcmp_z x hi (1) _ hx hhi (cz_gt (by have := H1.out; have := H2.out; have := H3.out; omega))).mono ?_
  rintro e w' ⟨rfl, rfl⟩
  go_wp2_with fail
  refine (rcmp_z lo hi (0) _ hlo hhi (cz_eq (by have := H1.out; have := H2.out; have := H3.out; omega))).mono ?_
  rintro e w' ⟨rfl, rfl⟩
  go_wp2_with fail
  refine (rcmp_z hi hi (0) _ hhi hhi (cz_eq (by have := H1.out; have := H2.out; have := H3.out; omega))).mono ?_
  rintro e w' ⟨rfl, rfl⟩
  go_wp2_with fail
  refine (same_z hi x false _ (by rw [same_key hhi hx]; exact decide_eq_false (by have := H1.out; have := H2.out; have := H3.out; omega))).mono ?_
  rintro e w' ⟨rfl, rfl⟩
  go_wp2_with fail
  refine (clamp_z hi lo hi hi _ hhi hlo hhi (clamp_in H_HI.out H_LO.out H_HI.out (by have := H1.out; have := H2.out; have := H3.out; omega) (by have := H1.out; have := H2.out; have := H3.out; omega) (Nat.le_refl _))).mono ?_
  rintro e w' ⟨rfl, rfl⟩
  go_wp2_with fail
  refine (same_z hi hi true _ (sameB_yes rfl)).mono ?_
  rintro e w' ⟨rfl, rfl⟩
  go_wp2_with fail
  refine (awake_any _).mono ?_
  rintro e wz ⟨rfl, hbz⟩
  go_wp2_with fail
  go_ret
  exact ⟨rfl, hbz⟩
set_option maxHeartbeats 1000000 in
theorem cl_eqeqeq (x lo hi : Nat) (w : World) (hx : lt64 x) (hlo : lt64 lo) (hhi : lt64 hi) (h_x : rg x ≤ 9218868437227405312) (h_lo : rg lo ≤ 9218868437227405312) (h_hi : rg hi ≤ 9218868437227405312) (h1 : keyV lo = keyV hi) (h2 : keyV lo = keyV x) (h3 : keyV x = keyV hi) :
    Calls Try.prog 8 #[.float .f64 x, .float .f64 lo, .float .f64 hi] w fun e w' => e = .returned (.bool true) ∧ Below w.heap.size w w' := by
  have n_x := t_ne_num h_x
  have n_lo := t_ne_num h_lo
  have n_hi := t_ne_num h_hi
  have H_X := Lib.hid h_x
  have H_LO := Lib.hid h_lo
  have H_HI := Lib.hid h_hi
  have H1 := Lib.hid h1
  have H2 := Lib.hid h2
  have H3 := Lib.hid h3
  clear h_x h_lo h_hi h1 h2 h3
  go_enter Try.func8, Try.ntmps8
  go_wp2_with fail
  refine (clamp_z x lo hi x _ hx hlo hhi (clamp_in H_X.out H_LO.out H_HI.out (by have := H1.out; have := H2.out; have := H3.out; omega) (by have := H1.out; have := H2.out; have := H3.out; omega) (by have := H1.out; have := H2.out; have := H3.out; omega))).mono ?_
  rintro e w' ⟨rfl, rfl⟩
  go_wp2_with fail
  refine (rcmp_z lo hi (0) _ hlo hhi (cz_eq (by have := H1.out; have := H2.out; have := H3.out; omega))).mono ?_
  rintro e w' ⟨rfl, rfl⟩
  go_wp2_with fail
  refine (rcmp_z lo x (0) _ hlo hx (cz_eq (by have := H1.out; have := H2.out; have := H3.out; omega))).mono ?_
  rintro e w' ⟨rfl, rfl⟩
  go_wp2_with fail
  refine (rcmp_z x hi (0) _ hx hhi (cz_eq (by have := H1.out; have := H2.out; have := H3.out; omega))).mono ?_
  rintro e w' ⟨rfl, rfl⟩
  go_wp2_with fail
  refine (rcmp_z lo x (0) _ hlo hx (cz_eq (by have := H1.out; have := H2.out; have := H3.out; omega))).mono ?_
  rintro e w' ⟨rfl, rfl⟩
  go_wp2_with fail
  refine (rcmp_z x hi (0) _ hx hhi (cz_eq (by have := H1.out; have := H2.out; have := H3.out; omega))).mono ?_
  rintro e w' ⟨rfl, rfl⟩
  go_wp2_with fail
  refine (same_z x x true _ (sameB_yes rfl)).mono ?_
  rintro e w' ⟨rfl, rfl⟩
  go_wp2_with fail
  refine (clamp_z x lo hi x _ hx hlo hhi (clamp_in H_X.out H_LO.out H_HI.out (by have := H1.out; have := H2.out; have := H3.out; omega) (by have := H1.out; have := H2.out; have := H3.out; omega) (by have := H1.out; have := H2.out; have := H3.out; omega))).mono ?_
  rintro e w' ⟨rfl, rfl⟩
  go_wp2_with fail
  refine (same_z x x true _ (sameB_yes rfl)).mono ?_
  rintro e w' ⟨rfl, rfl⟩
  go_wp2_with fail
  refine (awake_any _).mono ?_
  rintro e wz ⟨rfl, hbz⟩
  go_wp2_with fail
  go_ret
  exact ⟨rfl, hbz⟩
set_option maxHeartbeats 1000000 in
theorem cl_eqgtlt (x lo hi : Nat) (w : World) (hx : lt64 x) (hlo : lt64 lo) (hhi : lt64 hi) (h_x : rg x ≤ 9218868437227405312) (h_lo : rg lo ≤ 9218868437227405312) (h_hi : rg hi ≤ 9218868437227405312) (h1 : keyV lo = keyV hi) (h2 : keyV x < keyV lo) (h3 : keyV x < keyV hi) :
    Calls Try.prog 8 #[.float .f64 x, .float .f64 lo, .float .f64 hi] w fun e w' => e = .returned (.bool true) ∧ Below w.heap.size w w' := by
  have n_x := t_ne_num h_x
  have n_lo := t_ne_num h_lo
  have n_hi := t_ne_num h_hi
  have H_X := Lib.hid h_x
  have H_LO := Lib.hid h_lo
  have H_HI := Lib.hid h_hi
  have H1 := Lib.hid h1
  have H2 := Lib.hid h2
  have H3 := Lib.hid h3
  clear h_x h_lo h_hi h1 h2 h3
  go_enter Try.func8, Try.ntmps8
  go_wp2_with fail
  refine (clamp_z x lo hi lo _ hx hlo hhi (clamp_lo H_X.out H_LO.out H_HI.out (by have := H1.out; have := H2.out; have := H3.out; omega) (by have := H1.out; have := H2.out; have := H3.out; omega))).mono ?_
  rintro e w' ⟨rfl, rfl⟩
  go_wp2_with fail
  refine (rcmp_z lo hi (0) _ hlo hhi (cz_eq (by have := H1.out; have := H2.out; have := H3.out; omega))).mono ?_
  rintro e w' ⟨rfl, rfl⟩
  go_wp2_with fail
  refine (rcmp_z lo x (1) _ hlo hx (cz_gt (by have := H1.out; have := H2.out; have := H3.out; omega))).mono ?_
  rintro e w' ⟨rfl, rfl⟩
  go_wp2_with fail
  refine (rcmp_z lo lo (0) _ hlo hlo (cz_eq (by have := H1.out; have := H2.out; have := H3.out; omega))).mono ?_
  rintro e w' ⟨rfl, rfl⟩
  go_wp2_with fail
  refine (rcmp_z lo hi (0) _ hlo hhi (cz_eq (by have := H1.out; have := H2.out; have := H3.out; omega))).mono ?_
  rintro e w' ⟨rfl, rfl⟩
  go_wp2_with fail
  refine (same_z lo x false _ (by rw [same_key hlo hx]; exact decide_eq_false (by have := H1.out; have := H2.out; have := H3.out; omega))).mono ?_
  rintro e w' ⟨rfl, rfl⟩
  go_wp2_with fail
  refine (clamp_z lo lo hi lo _ hlo hlo hhi (clamp_in H_LO.out H_LO.out H_HI.out (by have := H1.out; have := H2.out; have := H3.out; omega) (Nat.le_refl _) (by have := H1.out; have := H2.out; have := H3.out; omega))).mono ?_
  rintro e w' ⟨rfl, rfl⟩
  go_wp2_with fail
  refine (same_z lo lo true _ (sameB_yes rfl)).mono ?_
  rintro e w' ⟨rfl, rfl⟩
  go_wp2_with fail
  refine (awake_any _).mono ?_
  rintro e wz ⟨rfl, hbz⟩
  go_wp2_with fail
  go_ret
  exact ⟨rfl, hbz⟩
theorem clamps_walk (x lo hi : Nat) (w : World) (hx0 : (Lit.float .f64 x).wf = true) (hlo0 : (Lit.float .f64 lo).wf = true) (hhi0 : (Lit.float .f64 hi).wf = true) :
    Calls Try.prog 8 #[.float .f64 x, .float .f64 lo, .float .f64 hi] w fun e w' => e = .returned (.bool true) ∧ Below w.heap.size w w' := by
  have hx := lt64_of hx0
  have hlo := lt64_of hlo0
  have hhi := lt64_of hhi0
  rcases Nat.lt_or_ge 9218868437227405312 (rg x) with h_x | h_x
  · exact cl_nx x lo hi w hx hlo hhi h_x
  rcases Nat.lt_or_ge 9218868437227405312 (rg lo) with h_lo | h_lo
  · exact cl_nl x lo hi w hx hlo hhi h_x h_lo
  rcases Nat.lt_or_ge 9218868437227405312 (rg hi) with h_hi | h_hi
  · exact cl_nh x lo hi w hx hlo hhi h_x h_lo h_hi
  rcases Nat.lt_or_ge (keyV hi) (keyV lo) with h1 | h1
  · exact cl_no x lo hi w hx hlo hhi h_x h_lo h_hi h1
  rcases Nat.lt_trichotomy (keyV lo) (keyV hi) with a1 | a1 | a1 <;> rcases Nat.lt_trichotomy (keyV lo) (keyV x) with a2 | a2 | a2 <;> rcases Nat.lt_trichotomy (keyV x) (keyV hi) with a3 | a3 | a3
  all_goals first
  | exact cl_ltltlt x lo hi w hx hlo hhi h_x h_lo h_hi (by omega) (by omega) (by omega)
  | exact cl_ltlteq x lo hi w hx hlo hhi h_x h_lo h_hi (by omega) (by omega) (by omega)
  | exact cl_ltltgt x lo hi w hx hlo hhi h_x h_lo h_hi (by omega) (by omega) (by omega)
  | exact cl_lteqlt x lo hi w hx hlo hhi h_x h_lo h_hi (by omega) (by omega) (by omega)
  | exact cl_ltgtlt x lo hi w hx hlo hhi h_x h_lo h_hi (by omega) (by omega) (by omega)
  | exact cl_eqltgt x lo hi w hx hlo hhi h_x h_lo h_hi (by omega) (by omega) (by omega)
  | exact cl_eqeqeq x lo hi w hx hlo hhi h_x h_lo h_hi (by omega) (by omega) (by omega)
  | exact cl_eqgtlt x lo hi w hx hlo hhi h_x h_lo h_hi (by omega) (by omega) (by omega)
  | (exfalso; omega)
end Go.Proofs.Yteekeoenbackcaa.So
