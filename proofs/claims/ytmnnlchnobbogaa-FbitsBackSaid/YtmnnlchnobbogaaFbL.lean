/- scarplaw1.awake returns true. -/
import Derived.Test.YtmnnlchnobbogaaFbN
namespace Go.Proofs.Ytmnnlchnobbogaa.Fb
set_option linter.unusedSimpArgs false
set_option linter.unusedVariables false
open Go.RowKit Fl
attribute [local go_sem] and_sgn andNot_sgn xor_sgn xor_all run_neg_float u64_unsigned

theorem awake_any (w : World) :
    Calls Try.prog 13 #[] w fun e w' => e = .returned (.bool true) ∧ w = w' := by
  have c1 : Calls Try.prog 14 #[.float .f64 4607182418800017408] w fun e w' => e = .returned (.int .u64 4607182418800017408) ∧ w = w' :=
    (bits_any 4607182418800017408 w).mono fun _ _ ⟨he, hw⟩ => ⟨by rw [he, show cn 4607182418800017408 = 4607182418800017408 by decide]; rfl, hw⟩
  have c2 : Calls Try.prog 15 #[.float .f64 0] w fun e w' => e = .returned (.int .u64 9223372036854775808) ∧ w = w' :=
    (key_any 0 w (by show (0 : Nat) < 18446744073709551616; omega)).mono fun _ _ ⟨he, hw⟩ => ⟨by rw [he, show keyV 0 = 9223372036854775808 by unfold keyV keyW; decide +kernel]; rfl, hw⟩
  have c3 : Calls Try.prog 11 #[.int .u64 9223372036854775808] w fun e w' => e = .returned (.float .f64 9223372036854775808) ∧ w = w' :=
    (from_int 9223372036854775808 w).mono fun _ _ ⟨he, hw⟩ => ⟨by rw [he, show cn (Int.toNat 9223372036854775808) = 9223372036854775808 by decide], hw⟩
  have c4 : Calls Try.prog 12 #[.float .f64 9223372036854775808] w fun e w' => e = .returned (.int .i64 5) ∧ w = w' :=
    class_zero_true 9223372036854775808 w (by show (9223372036854775808 : Nat) < 18446744073709551616; omega) (by decide) (by decide)
  go_enter Try.func13, Try.ntmps13
  go_wp2_with (first | (go_at_call 14; refine (c1).mono ?_; rintro e w' ⟨rfl, rfl⟩) | (go_at_call 15; refine (c2).mono ?_; rintro e w' ⟨rfl, rfl⟩) | (go_at_call 11; refine (c3).mono ?_; rintro e w' ⟨rfl, rfl⟩) | (go_at_call 12; refine (c4).mono ?_; rintro e w' ⟨rfl, rfl⟩))
  go_ret
  exact ⟨rfl, rfl⟩
theorem from_num (v : Nat) (w : World) (h : rg v ≤ 9218868437227405312) :
    Calls Try.prog 11 #[.int .u64 v] w fun e w' => e = .returned (.float .f64 v) ∧ w = w' :=
  (from_any v w).mono fun _ _ ⟨he, hw⟩ => ⟨by rw [cn_num h] at he; exact he, hw⟩
theorem from_nan (v : Nat) (w : World) (h : 9218868437227405312 < rg v) :
    Calls Try.prog 11 #[.int .u64 v] w fun e w' => e = .returned (.float .f64 (cn v)) ∧ w = w' := from_any v w
theorem u64_nat {v : Int} (h : (Lit.int .u64 v).wf = true) : ∃ n : Nat, v = (n : Int) ∧ lt64 n := by
  have h2 : IntKind.u64.min ≤ v ∧ v ≤ IntKind.u64.max := by simpa [Lit.wf] using h
  rw [show IntKind.u64.min = 0 by decide, show IntKind.u64.max = 18446744073709551615 by decide] at h2
  exact ⟨v.toNat, by omega, by show v.toNat < 18446744073709551616; omega⟩
end Go.Proofs.Ytmnnlchnobbogaa.Fb
