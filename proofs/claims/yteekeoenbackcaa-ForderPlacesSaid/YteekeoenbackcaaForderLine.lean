/- ForderLine: the walk. For every three numbers the law returns true, and nothing that was there is written. No condition. -/
import Derived.Test.YteekeoenbackcaaFoD
namespace Go.Proofs.Yteekeoenbackcaa.So
set_option linter.unusedSimpArgs false
set_option linter.unusedVariables false
open Go.RowKit Go.Sort Go.Lib Fl Fb
attribute [local go_sem] u64_unsigned

set_option maxHeartbeats 1000000 in
theorem cmp_z (x y : Nat) (z : Int) (w : World) (hx : lt64 x) (hy : lt64 y) (hz : cmpN (keyV x) (keyV y) = z) :
    Calls Try.prog 14 #[.float .f64 x, .float .f64 y] w fun e w' => e = .returned (.int .i64 z) ∧ w = w' := by
  subst hz; exact cmp_any x y w hx hy
set_option maxHeartbeats 1000000 in
theorem same_z (x y : Nat) (z : Bool) (w : World) (hz : sameB x y = z) :
    Calls Try.prog 15 #[.float .f64 x, .float .f64 y] w fun e w' => e = .returned (.bool z) ∧ w = w' := by
  subst hz; exact rsame_any x y w
theorem cz_lt {a b : Nat} (h : a < b) : cmpN a b = -1 := if_pos h
theorem cz_eq {a b : Nat} (h : a = b) : cmpN a b = 0 := by unfold cmpN; rw [if_neg (by omega), if_neg (by omega)]
theorem cz_gt {a b : Nat} (h : b < a) : cmpN a b = 1 := by unfold cmpN; rw [if_neg (by omega), if_pos h]
set_option maxHeartbeats 1000000 in
theorem line_ltlt (a b c : Nat) (w : World) (ha : lt64 a) (hb : lt64 b) (hc : lt64 c) (h1 : keyV a < keyV b) (h2 : keyV b < keyV c) :
    Calls Try.prog 4 #[.float .f64 a, .float .f64 b, .float .f64 c] w fun e w' => e = .returned (.bool true) ∧ Below w.heap.size w w' := by
  have H1 := Lib.hid h1
  clear h1
  have H2 := Lib.hid h2
  clear h2
  go_enter Try.func4, Try.ntmps4
  go_wp2_with fail
  refine (cmp_z a b (-1) _ ha hb (cz_lt (by have := H1.out; have := H2.out; omega))).mono ?_
  rintro e w' ⟨rfl, rfl⟩
  go_wp2_with fail
  refine (cmp_z b a (1) _ hb ha (cz_gt (by have := H1.out; have := H2.out; omega))).mono ?_
  rintro e w' ⟨rfl, rfl⟩
  go_wp2_with fail
  refine (same_z a b false _ (by rw [same_key ha hb]; exact decide_eq_false (by have := H1.out; have := H2.out; omega))).mono ?_
  rintro e w' ⟨rfl, rfl⟩
  go_wp2_with fail
  refine (cmp_z a a (0) _ ha ha (cz_eq (by have := H1.out; have := H2.out; omega))).mono ?_
  rintro e w' ⟨rfl, rfl⟩
  go_wp2_with fail
  refine (cmp_z b c (-1) _ hb hc (cz_lt (by have := H1.out; have := H2.out; omega))).mono ?_
  rintro e w' ⟨rfl, rfl⟩
  go_wp2_with fail
  refine (cmp_z a c (-1) _ ha hc (cz_lt (by have := H1.out; have := H2.out; omega))).mono ?_
  rintro e w' ⟨rfl, rfl⟩
  go_wp2_with fail
  refine (awake_any _).mono ?_
  rintro e wz ⟨rfl, hbz⟩
  go_wp2_with fail
  go_ret
  exact ⟨rfl, hbz⟩
set_option maxHeartbeats 1000000 in
theorem line_lteq (a b c : Nat) (w : World) (ha : lt64 a) (hb : lt64 b) (hc : lt64 c) (h1 : keyV a < keyV b) (h2 : keyV b = keyV c) :
    Calls Try.prog 4 #[.float .f64 a, .float .f64 b, .float .f64 c] w fun e w' => e = .returned (.bool true) ∧ Below w.heap.size w w' := by
  have H1 := Lib.hid h1
  clear h1
  have H2 := Lib.hid h2
  clear h2
  go_enter Try.func4, Try.ntmps4
  go_wp2_with fail
  refine (cmp_z a b (-1) _ ha hb (cz_lt (by have := H1.out; have := H2.out; omega))).mono ?_
  rintro e w' ⟨rfl, rfl⟩
  go_wp2_with fail
  refine (cmp_z b a (1) _ hb ha (cz_gt (by have := H1.out; have := H2.out; omega))).mono ?_
  rintro e w' ⟨rfl, rfl⟩
  go_wp2_with fail
  refine (same_z a b false _ (by rw [same_key ha hb]; exact decide_eq_false (by have := H1.out; have := H2.out; omega))).mono ?_
  rintro e w' ⟨rfl, rfl⟩
  go_wp2_with fail
  refine (cmp_z a a (0) _ ha ha (cz_eq (by have := H1.out; have := H2.out; omega))).mono ?_
  rintro e w' ⟨rfl, rfl⟩
  go_wp2_with fail
  refine (cmp_z b c (0) _ hb hc (cz_eq (by have := H1.out; have := H2.out; omega))).mono ?_
  rintro e w' ⟨rfl, rfl⟩
  go_wp2_with fail
  refine (cmp_z a c (-1) _ ha hc (cz_lt (by have := H1.out; have := H2.out; omega))).mono ?_
  rintro e w' ⟨rfl, rfl⟩
  go_wp2_with fail
  refine (awake_any _).mono ?_
  rintro e wz ⟨rfl, hbz⟩
  go_wp2_with fail
  go_ret
  exact ⟨rfl, hbz⟩
set_option maxHeartbeats 1000000 in
theorem line_ltgt (a b c : Nat) (w : World) (ha : lt64 a) (hb : lt64 b) (hc : lt64 c) (h1 : keyV a < keyV b) (h2 : keyV b > keyV c) :
    Calls Try.prog 4 #[.float .f64 a, .float .f64 b, .float .f64 c] w fun e w' => e = .returned (.bool true) ∧ Below w.heap.size w w' := by
  have H1 := Lib.hid h1
  clear h1
  have H2 := Lib.hid h2
  clear h2
  go_enter Try.func4, Try.ntmps4
  go_wp2_with fail
  refine (cmp_z a b (-1) _ ha hb (cz_lt (by have := H1.out; have := H2.out; omega))).mono ?_
  rintro e w' ⟨rfl, rfl⟩
  go_wp2_with fail
  refine (cmp_z b a (1) _ hb ha (cz_gt (by have := H1.out; have := H2.out; omega))).mono ?_
  rintro e w' ⟨rfl, rfl⟩
  go_wp2_with fail
  refine (same_z a b false _ (by rw [same_key ha hb]; exact decide_eq_false (by have := H1.out; have := H2.out; omega))).mono ?_
  rintro e w' ⟨rfl, rfl⟩
  go_wp2_with fail
  refine (cmp_z a a (0) _ ha ha (cz_eq (by have := H1.out; have := H2.out; omega))).mono ?_
  rintro e w' ⟨rfl, rfl⟩
  go_wp2_with fail
  refine (cmp_z b c (1) _ hb hc (cz_gt (by have := H1.out; have := H2.out; omega))).mono ?_
  rintro e w' ⟨rfl, rfl⟩
  go_wp2_with fail
  refine (awake_any _).mono ?_
  rintro e wz ⟨rfl, hbz⟩
  go_wp2_with fail
  go_ret
  exact ⟨rfl, hbz⟩
set_option maxHeartbeats 1000000 in
theorem line_eqlt (a b c : Nat) (w : World) (ha : lt64 a) (hb : lt64 b) (hc : lt64 c) (h1 : keyV a = keyV b) (h2 : keyV b < keyV c) :
    Calls Try.prog 4 #[.float .f64 a, .float .f64 b, .float .f64 c] w fun e w' => e = .returned (.bool true) ∧ Below w.heap.size w w' := by
  have H1 := Lib.hid h1
  clear h1
  have H2 := Lib.hid h2
  clear h2
  go_enter Try.func4, Try.ntmps4
  go_wp2_with fail
  refine (cmp_z a b (0) _ ha hb (cz_eq (by have := H1.out; have := H2.out; omega))).mono ?_
  rintro e w' ⟨rfl, rfl⟩
  go_wp2_with fail
  refine (cmp_z b a (0) _ hb ha (cz_eq (by have := H1.out; have := H2.out; omega))).mono ?_
  rintro e w' ⟨rfl, rfl⟩
  go_wp2_with fail
  refine (same_z a b true _ (by rw [same_key ha hb]; exact decide_eq_true (by have := H1.out; have := H2.out; omega))).mono ?_
  rintro e w' ⟨rfl, rfl⟩
  go_wp2_with fail
  refine (cmp_z a a (0) _ ha ha (cz_eq (by have := H1.out; have := H2.out; omega))).mono ?_
  rintro e w' ⟨rfl, rfl⟩
  go_wp2_with fail
  refine (cmp_z b c (-1) _ hb hc (cz_lt (by have := H1.out; have := H2.out; omega))).mono ?_
  rintro e w' ⟨rfl, rfl⟩
  go_wp2_with fail
  refine (cmp_z a c (-1) _ ha hc (cz_lt (by have := H1.out; have := H2.out; omega))).mono ?_
  rintro e w' ⟨rfl, rfl⟩
  go_wp2_with fail
  refine (awake_any _).mono ?_
  rintro e wz ⟨rfl, hbz⟩
  go_wp2_with fail
  go_ret
  exact ⟨rfl, hbz⟩
set_option maxHeartbeats 1000000 in
theorem line_eqeq (a b c : Nat) (w : World) (ha : lt64 a) (hb : lt64 b) (hc : lt64 c) (h1 : keyV a = keyV b) (h2 : keyV b = keyV c) :
    Calls Try.prog 4 #[.float .f64 a, .float .f64 b, .float .f64 c] w fun e w' => e = .returned (.bool true) ∧ Below w.heap.size w w' := by
  have H1 := Lib.hid h1
  clear h1
  have H2 := Lib.hid h2
  clear h2
  go_enter Try.func4, Try.ntmps4
  go_wp2_with fail
  refine (cmp_z a b (0) _ ha hb (cz_eq (by have := H1.out; have := H2.out; omega))).mono ?_
  rintro e w' ⟨rfl, rfl⟩
  go_wp2_with fail
  refine (cmp_z b a (0) _ hb ha (cz_eq (by have := H1.out; have := H2.out; omega))).mono ?_
  rintro e w' ⟨rfl, rfl⟩
  go_wp2_with fail
  refine (same_z a b true _ (by rw [same_key ha hb]; exact decide_eq_true (by have := H1.out; have := H2.out; omega))).mono ?_
  rintro e w' ⟨rfl, rfl⟩
  go_wp2_with fail
  refine (cmp_z a a (0) _ ha ha (cz_eq (by have := H1.out; have := H2.out; omega))).mono ?_
  rintro e w' ⟨rfl, rfl⟩
  go_wp2_with fail
  refine (cmp_z b c (0) _ hb hc (cz_eq (by have := H1.out; have := H2.out; omega))).mono ?_
  rintro e w' ⟨rfl, rfl⟩
  go_wp2_with fail
  refine (cmp_z a c (0) _ ha hc (cz_eq (by have := H1.out; have := H2.out; omega))).mono ?_
  rintro e w' ⟨rfl, rfl⟩
  go_wp2_with fail
  refine (awake_any _).mono ?_
  rintro e wz ⟨rfl, hbz⟩
  go_wp2_with fail
  go_ret
  exact ⟨rfl, hbz⟩
set_option maxHeartbeats 1000000 in
theorem line_eqgt (a b c : Nat) (w : World) (ha : lt64 a) (hb : lt64 b) (hc : lt64 c) (h1 : keyV a = keyV b) (h2 : keyV b > keyV c) :
    Calls Try.prog 4 #[.float .f64 a, .float .f64 b, .float .f64 c] w fun e w' => e = .returned (.bool true) ∧ Below w.heap.size w w' := by
  have H1 := Lib.hid h1
  clear h1
  have H2 := Lib.hid h2
  clear h2
  go_enter Try.func4, Try.ntmps4
  go_wp2_with fail
  refine (cmp_z a b (0) _ ha hb (cz_eq (by have := H1.out; have := H2.out; omega))).mono ?_
  rintro e w' ⟨rfl, rfl⟩
  go_wp2_with fail
  refine (cmp_z b a (0) _ hb ha (cz_eq (by have := H1.out; have := H2.out; omega))).mono ?_
  rintro e w' ⟨rfl, rfl⟩
  go_wp2_with fail
  refine (same_z a b true _ (by rw [same_key ha hb]; exact decide_eq_true (by have := H1.out; have := H2.out; omega))).mono ?_
  rintro e w' ⟨rfl, rfl⟩
  go_wp2_with fail
  refine (cmp_z a a (0) _ ha ha (cz_eq (by have := H1.out; have := H2.out; omega))).mono ?_
  rintro e w' ⟨rfl, rfl⟩
  go_wp2_with fail
  refine (cmp_z b c (1) _ hb hc (cz_gt (by have := H1.out; have := H2.out; omega))).mono ?_
  rintro e w' ⟨rfl, rfl⟩
  go_wp2_with fail
  refine (awake_any _).mono ?_
  rintro e wz ⟨rfl, hbz⟩
  go_wp2_with fail
  go_ret
  exact ⟨rfl, hbz⟩
set_option maxHeartbeats 1000000 in
theorem line_gt (a b c : Nat) (w : World) (ha : lt64 a) (hb : lt64 b) (hc : lt64 c) (h1 : keyV a > keyV b) :
    Calls Try.prog 4 #[.float .f64 a, .float .f64 b, .float .f64 c] w fun e w' => e = .returned (.bool true) ∧ Below w.heap.size w w' := by
  have H1 := Lib.hid h1
  clear h1
  go_enter Try.func4, Try.ntmps4
  go_wp2_with fail
  refine (cmp_z a b (1) _ ha hb (cz_gt (by have := H1.out; omega))).mono ?_
  rintro e w' ⟨rfl, rfl⟩
  go_wp2_with fail
  refine (cmp_z b a (-1) _ hb ha (cz_lt (by have := H1.out; omega))).mono ?_
  rintro e w' ⟨rfl, rfl⟩
  go_wp2_with fail
  refine (same_z a b false _ (by rw [same_key ha hb]; exact decide_eq_false (by have := H1.out; omega))).mono ?_
  rintro e w' ⟨rfl, rfl⟩
  go_wp2_with fail
  refine (cmp_z a a (0) _ ha ha (cz_eq (by have := H1.out; omega))).mono ?_
  rintro e w' ⟨rfl, rfl⟩
  go_wp2_with fail
  refine (awake_any _).mono ?_
  rintro e wz ⟨rfl, hbz⟩
  go_wp2_with fail
  go_ret
  exact ⟨rfl, hbz⟩
theorem line_walk (a b c : Nat) (w : World) (ha : (Lit.float .f64 a).wf = true) (hb : (Lit.float .f64 b).wf = true) (hc : (Lit.float .f64 c).wf = true) :
    Calls Try.prog 4 #[.float .f64 a, .float .f64 b, .float .f64 c] w fun e w' => e = .returned (.bool true) ∧ Below w.heap.size w w' := by
  rcases Nat.lt_trichotomy (keyV a) (keyV b) with h1 | h1 | h1
  · rcases Nat.lt_trichotomy (keyV b) (keyV c) with h2 | h2 | h2
    · exact line_ltlt a b c w (lt64_of ha) (lt64_of hb) (lt64_of hc) h1 h2
    · exact line_lteq a b c w (lt64_of ha) (lt64_of hb) (lt64_of hc) h1 h2
    · exact line_ltgt a b c w (lt64_of ha) (lt64_of hb) (lt64_of hc) h1 h2
  · rcases Nat.lt_trichotomy (keyV b) (keyV c) with h2 | h2 | h2
    · exact line_eqlt a b c w (lt64_of ha) (lt64_of hb) (lt64_of hc) h1 h2
    · exact line_eqeq a b c w (lt64_of ha) (lt64_of hb) (lt64_of hc) h1 h2
    · exact line_eqgt a b c w (lt64_of ha) (lt64_of hb) (lt64_of hc) h1 h2
  · exact line_gt a b c w (lt64_of ha) (lt64_of hb) (lt64_of hc) h1
end Go.Proofs.Yteekeoenbackcaa.So
