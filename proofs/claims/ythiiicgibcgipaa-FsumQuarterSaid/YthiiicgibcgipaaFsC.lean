/- Contracts of Mean of fsum and of the reference: what each returns, for every list of numbers. -/
import Derived.Test.YthiiicgibcgipaaFsB
namespace Go.Proofs.Ythiiicgibcgipaa.Fs
set_option linter.unusedSimpArgs false
set_option linter.unusedVariables false
open Go.RowKit Fl Fb
attribute [local go_sem] and_sgn andNot_sgn xor_sgn xor_all run_neg_float u64_unsigned

set_option maxHeartbeats 1000000 in
theorem mean_none (A : Option Addr) (c : Nat) (w : World) :
    Calls Try.prog 19 #[.slice A 0 c] w fun e w' => e = .returned (.tuple #[.float .f64 0, .int .i64 14]) ∧ w = w' := by
  go_enter Try.func19, Try.ntmps19
  go_wp2_with fail
  go_ret2
  exact ⟨rfl, rfl⟩
set_option maxHeartbeats 1000000 in
theorem mean_some (A : Option Addr) (n c : Nat) (l : List Nat) (w : World) (h : IsNums w A n c l) (hn : n ≤ 1000000) (h0 : ((n : Int) == 0) = false) :
    Calls Try.prog 19 #[.slice A n c] w fun e w' => e = .returned (.tuple #[.float .f64 (meanV l), .int .i64 0]) ∧ Below w.heap.size w w' := by
  have hl := Lib.hid h.len
  go_enter Try.func19, Try.ntmps19
  go_wp2_with fail
  refine (sum_any _ _ _ _ _ h hn).mono ?_
  rintro e w1 ⟨rfl, hb⟩
  go_wp2_with (go_at_call 31; refine (plain_any _ _).mono ?_; rintro e w' ⟨rfl, rfl⟩)
  go_ret2
  exact ⟨by unfold meanV; rw [hl.out, ← cn_fR]; rfl, hb.trans ⟨rfl, rfl, rfl, Nat.le_refl _, fun _ _ => rfl⟩⟩
set_option maxHeartbeats 1000000 in
theorem rmean_none (A : Option Addr) (c : Nat) (w : World) :
    Calls Try.prog 21 #[.slice A 0 c] w fun e w' => e = .returned (.tuple #[.float .f64 0, .int .i64 14]) ∧ w = w' := by
  go_enter Try.func21, Try.ntmps21
  go_wp2_with fail
  go_ret2
  exact ⟨rfl, rfl⟩
set_option maxHeartbeats 1000000 in
theorem rmean_some (A : Option Addr) (n c : Nat) (l : List Nat) (w : World) (h : IsNums w A n c l) (hn : n ≤ 1000000) (h0 : ((n : Int) == 0) = false) :
    Calls Try.prog 21 #[.slice A n c] w fun e w' => e = .returned (.tuple #[.float .f64 (meanV l), .int .i64 0]) ∧ Below w.heap.size w w' := by
  have hl := Lib.hid h.len
  go_enter Try.func21, Try.ntmps21
  go_wp2_with fail
  refine (rsum_any _ _ _ _ _ h hn).mono ?_
  rintro e w1 ⟨rfl, hb⟩
  go_wp2_with (go_at_call 33; refine (clean_any _ _).mono ?_; rintro e w' ⟨rfl, rfl⟩)
  go_ret2
  exact ⟨by unfold meanV; rw [hl.out, ← cn_fR]; rfl, hb.trans ⟨rfl, rfl, rfl, Nat.le_refl _, fun _ _ => rfl⟩⟩
end Go.Proofs.Ythiiicgibcgipaa.Fs
