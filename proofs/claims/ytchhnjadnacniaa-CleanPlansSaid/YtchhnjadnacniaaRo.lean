/- Contract of Round: a number from 0 to ahead of n. -/
import Derived.Test.YtchhnjadnacniaaChecked
import Derived.Test.YtchhnjadnacniaaKept
import Derived.IntWalk
import Derived.Lib.Hide
import Derived.KernelRfl
namespace Go.Proofs.Ytchhnjadnacniaa.Ro
set_option linter.unusedVariables false
open Go.RowKit
theorem tmod_gt (k : Int) (n : Nat) (h : 0 < n) : -(n : Int) < k.tmod n := by
  have h1 := Int.natAbs_tmod (a := k) (b := n)
  have h2 := Nat.mod_lt k.natAbs h
  rw [Int.natAbs_natCast] at h1
  omega
theorem round_lt (k : Int) (n : Nat) (h : 0 < n) : ∃ j : Nat, j < n ∧ (if k.tmod n < 0 then k.tmod n + n else k.tmod n) = (j : Int) := by
  have h1 := Int.tmod_lt_of_pos k (show (0 : Int) < n by omega)
  have h2 := tmod_gt k n h
  by_cases h0 : k.tmod n < 0
  · exact ⟨(k.tmod n + n).toNat, by omega, by rw [if_pos h0]; omega⟩
  · exact ⟨(k.tmod n).toNat, by omega, by rw [if_neg h0]; omega⟩
set_option maxHeartbeats 1000000 in
theorem round_any (k : Int) (n : Nat) (w : World) (h : 0 < n) (hn : n ≤ 1000000) (hk : (Lit.int .i64 k).wf = true) :
    Calls Try.prog 15 #[.int .i64 k, .int .i64 n] w fun e w' => (∃ j : Nat, j < n ∧ e = .returned (.int .i64 j)) ∧ w = w' := by
  obtain ⟨j, hj, e⟩ := round_lt k n h
  have h1 := Int.tmod_lt_of_pos k (show (0 : Int) < n by omega)
  have h2 := tmod_gt k n h
  have n0 : ((n : Int) == 0) = false := beq_eq_false_iff_ne.2 (by omega)
  have n1 : ¬ (n : Int) = 0 := by omega
  have HJ := Lib.hid e
  clear e
  have hk1 : -9223372036854775808 ≤ k ∧ k ≤ 9223372036854775807 := by simpa [Lit.wf, IntKind.min, IntKind.max, IntKind.bits, IntKind.signed] using hk
  obtain ⟨hk1, hk2⟩ := hk1
  clear hk
  have w0 : IntKind.i64.wrap (k.tmod n) = k.tmod n := IntWalk.i64_in _ (by omega)
  obtain ⟨r, hr⟩ : ∃ r, k.tmod n = r := ⟨_, rfl⟩
  rw [hr] at h1 h2 w0 HJ
  by_cases h0 : r < 0
  · have t0 : decide (r < 0) = true := decide_eq_true h0
    go_enter Try.func15, Try.ntmps15
    go_wp2_with fail
    go_ret
    exact ⟨⟨j, hj, ret_int (by have := HJ.out; rw [if_pos h0] at this; exact this)⟩, rfl⟩
  · have t0 : decide (r < 0) = false := decide_eq_false h0
    go_enter Try.func15, Try.ntmps15
    go_wp2_with fail
    go_ret
    exact ⟨⟨j, hj, ret_int (by have := HJ.out; rw [if_neg (by omega)] at this; exact this)⟩, rfl⟩
end Go.Proofs.Ytchhnjadnacniaa.Ro
