/- Contracts of Key of the packages fbits and scarpref1: what each returns, for every number. -/
import Derived.Test.YtchhnjadnacniaaFbA
import Derived.Test.YtchhnjadnacniaaFlG
namespace Go.Proofs.Ytchhnjadnacniaa.Fb
set_option linter.unusedSimpArgs false
set_option linter.unusedVariables false
open Go.RowKit Fl

attribute [local go_sem] and_sgn andNot_sgn xor_sgn xor_all run_neg_float u64_unsigned
theorem key_any (x : Nat) (w : World) (hx : lt64 x) :
    Calls Try.prog 64 #[.float .f64 x] w fun e w' => e = .returned (.int .u64 (keyV x)) ∧ w = w' := by
  have hL := lt64_cn hx
  cases hs : ng (cn x)
  · have hk : keyV x = flipV (cn x) := by unfold keyV keyW; rw [hs]; rfl
    rw [hk]
    obtain ⟨s1, s2⟩ := sgn_no hs
    clear hs hk
    go_enter Try.func64, Try.ntmps64
    go_wp2_with (go_at_call 42; refine (bits_any _ _).mono ?_; rintro e w' ⟨rfl, rfl⟩)
    go_ret
    exact ⟨rfl, rfl⟩
  · have hk : keyV x = notV (cn x) := by unfold keyV keyW; rw [hs]; rfl
    rw [hk]
    obtain ⟨s1, s2⟩ := sgn_yes hs
    clear hs hk
    go_enter Try.func64, Try.ntmps64
    go_wp2_with (go_at_call 42; refine (bits_any _ _).mono ?_; rintro e w' ⟨rfl, rfl⟩)
    go_ret
    exact ⟨rfl, rfl⟩
theorem rkey_any (x : Nat) (w : World) (hx : lt64 x) :
    Calls Try.prog 69 #[.float .f64 x] w fun e w' => e = .returned (.int .u64 (keyV x)) ∧ w = w' := by
  have hL := lt64_cn hx
  cases hs : ng (cn x)
  · have hk : keyV x = flipV (cn x) := by unfold keyV keyW; rw [hs]; rfl
    rw [hk]
    obtain ⟨s1, s2⟩ := sgn_no hs
    clear hs hk
    go_enter Try.func69, Try.ntmps69
    go_wp2_with (go_at_call 91; refine (rbits_any _ _).mono ?_; rintro e w' ⟨rfl, rfl⟩)
    go_ret
    exact ⟨rfl, rfl⟩
  · have hk : keyV x = notV (cn x) := by unfold keyV keyW; rw [hs]; rfl
    rw [hk]
    obtain ⟨s1, s2⟩ := sgn_yes hs
    clear hs hk
    go_enter Try.func69, Try.ntmps69
    go_wp2_with (go_at_call 91; refine (rbits_any _ _).mono ?_; rintro e w' ⟨rfl, rfl⟩)
    go_ret
    exact ⟨rfl, rfl⟩
end Go.Proofs.Ytchhnjadnacniaa.Fb
