/- FbitsAsks: the walk. For every two numbers the law returns true, and nothing that was there is written. No condition. -/
import Derived.Test.YtmnnlchnobbogaaFbL
namespace Go.Proofs.Ytmnnlchnobbogaa.Fb
set_option linter.unusedSimpArgs false
set_option linter.unusedVariables false
open Go.RowKit Fl
attribute [local go_sem] and_sgn andNot_sgn xor_sgn xor_all run_neg_float u64_unsigned

set_option maxHeartbeats 1000000 in
theorem asks_walk (x y : Nat) (w : World) (h1 : (Lit.float .f64 x).wf = true) (h2 : (Lit.float .f64 y).wf = true) :
    Calls Try.prog 7 #[.float .f64 x, .float .f64 y] w fun e w' => e = .returned (.bool true) ∧ Below w.heap.size w w' := by
  have hx := lt64_of h1
  clear h1 h2
  have s1 : sameB (nextV x) (nextV x) = true := sameB_yes rfl
  have s2 : sameB (prevV x) (prevV x) = true := sameB_yes rfl
  go_enter Try.func7, Try.ntmps7
  go_wp2_with fail
  refine (class_any _ _ hx).mono ?_
  rintro e w' ⟨rfl, rfl⟩
  go_wp2_with fail
  refine (rclass_any _ _ hx).mono ?_
  rintro e w' ⟨rfl, rfl⟩
  go_wp2_with fail
  refine (bits_any _ _).mono ?_
  rintro e w' ⟨rfl, rfl⟩
  go_wp2_with fail
  refine (rbits_any _ _).mono ?_
  rintro e w' ⟨rfl, rfl⟩
  go_wp2_with fail
  refine (key_any _ _ hx).mono ?_
  rintro e w' ⟨rfl, rfl⟩
  go_wp2_with fail
  refine (rkey_any _ _ hx).mono ?_
  rintro e w' ⟨rfl, rfl⟩
  go_wp2_with fail
  refine (next_any _ _ hx).mono ?_
  rintro e w' ⟨rfl, rfl⟩
  go_wp2_with fail
  refine (rnext_any _ _ hx).mono ?_
  rintro e w' ⟨rfl, rfl⟩
  go_wp2_with fail
  refine (rsame_any _ _ _).mono ?_
  rintro e w' ⟨rfl, rfl⟩
  go_wp2_with fail
  refine (prev_any _ _ hx).mono ?_
  rintro e w' ⟨rfl, rfl⟩
  go_wp2_with fail
  refine (rprev_any _ _ hx).mono ?_
  rintro e w' ⟨rfl, rfl⟩
  go_wp2_with fail
  refine (rsame_any _ _ _).mono ?_
  rintro e w' ⟨rfl, rfl⟩
  go_wp2_with fail
  refine (same_any _ _ _).mono ?_
  rintro e w' ⟨rfl, rfl⟩
  go_wp2_with fail
  refine (rsame_any _ _ _).mono ?_
  rintro e w' ⟨rfl, rfl⟩
  go_wp2_with fail
  refine (awake_any _).mono ?_
  rintro e w' ⟨rfl, rfl⟩
  go_wp2_with fail
  go_ret
  exact ⟨rfl, Below.refl _ _⟩
end Go.Proofs.Ytmnnlchnobbogaa.Fb
