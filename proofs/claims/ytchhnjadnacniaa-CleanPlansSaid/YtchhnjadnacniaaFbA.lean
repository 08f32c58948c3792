/- Contracts of the packages fbits and scarpref1: Bits, From, Same: what each returns, for every number. -/
import Derived.Test.YtchhnjadnacniaaChecked
import Derived.Test.YtchhnjadnacniaaFlD
import Derived.Test.YtchhnjadnacniaaKept
import Derived.Outline
import Derived.Laws.Externs
import Derived.KernelRfl
namespace Go.Proofs.Ytchhnjadnacniaa.Fb
open Go.RowKit Fl

@[go_sem] theorem run_bits (x : Nat) (w : World) : (callFunc 68 #[.float .f64 x]).run Try.prog w = .ok (.value (.int .u64 x)) w := by
  rw [run_callFunc_extern Try.func68 (by kernel_rfl) (by kernel_rfl) (by kernel_rfl) (e := Extern.MathFloatBits.float64bits) (by kernel_rfl)]
  rfl
@[go_sem] theorem run_frombits (n : Int) (w : World) : (callFunc 67 #[.int .u64 n]).run Try.prog w = .ok (.value (.float .f64 n.toNat)) w := by
  rw [run_callFunc_extern Try.func67 (by kernel_rfl) (by kernel_rfl) (by kernel_rfl) (e := Extern.MathFloatBits.float64frombits) (by kernel_rfl)]
  rfl
attribute [go_sem] run_fadd run_fsub run_fmul run_fquo

theorem bits_any (x : Nat) (w : World) :
    Calls Try.prog 42 #[.float .f64 x] w fun e w' => e = .returned (.int .u64 (cn x)) ∧ w = w' := by
  by_cases h : 9218868437227405312 < rg x
  · have h1 := t_ne_nan h
    go_enter Try.func42, Try.ntmps42
    go_wp2
    go_ret
    exact ⟨ret_int (by rw [cn_nan h]; rfl), rfl⟩
  · have h1 := t_ne_num (Nat.le_of_not_lt h)
    go_enter Try.func42, Try.ntmps42
    go_wp2
    go_ret
    exact ⟨ret_int (by rw [cn_num (Nat.le_of_not_lt h)]), rfl⟩
theorem rbits_any (x : Nat) (w : World) :
    Calls Try.prog 91 #[.float .f64 x] w fun e w' => e = .returned (.int .u64 (cn x)) ∧ w = w' := by
  by_cases h : 9218868437227405312 < rg x
  · have h1 := t_ne_nan h
    go_enter Try.func91, Try.ntmps91
    go_wp2
    go_ret
    exact ⟨ret_int (by rw [cn_nan h]; rfl), rfl⟩
  · have h1 := t_ne_num (Nat.le_of_not_lt h)
    go_enter Try.func91, Try.ntmps91
    go_wp2
    go_ret
    exact ⟨ret_int (by rw [cn_num (Nat.le_of_not_lt h)]), rfl⟩
/-- the number of some bits; every NaN is the one. -/
theorem from_any (b : Nat) (w : World) :
    Calls Try.prog 41 #[.int .u64 b] w fun e w' => e = .returned (.float .f64 (cn b)) ∧ w = w' := by
  go_enter Try.func41, Try.ntmps41
  go_wp2_with (go_at_call 42; refine (bits_any _ _).mono ?_; rintro e w' ⟨rfl, rfl⟩)
  go_ret
  exact ⟨rfl, rfl⟩
theorem rfrom_any (b : Nat) (w : World) (hb : b < 18446744073709551616) :
    Calls Try.prog 59 #[.int .u64 b] w fun e w' => e = .returned (.float .f64 (cn b)) ∧ w = w' := by
  have hs := andNot_sign b hb
  by_cases h : 9218868437227405312 < rg b
  · have h1 : decide (9218868437227405312 < bits .andNot .u64 (b : Int) 9223372036854775808) = true := decide_eq_true (by rw [hs]; omega)
    clear hs
    go_enter Try.func59, Try.ntmps59
    go_wp2
    go_ret
    exact ⟨by rw [cn_nan h]; rfl, rfl⟩
  · have h1 : decide (9218868437227405312 < bits .andNot .u64 (b : Int) 9223372036854775808) = false := decide_eq_false (by rw [hs]; omega)
    clear hs
    go_enter Try.func59, Try.ntmps59
    go_wp2
    go_ret
    exact ⟨by rw [cn_num (Nat.le_of_not_lt h)]; rfl, rfl⟩
end Go.Proofs.Ytchhnjadnacniaa.Fb
