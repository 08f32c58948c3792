/- Contracts of the packages fbits and scarpref1: Bits, From, Same: what each returns, for every number. -/
import Derived.Test.YteekeoenbackcaaChecked
import Derived.Test.YteekeoenbackcaaFlD
import Derived.Test.YteekeoenbackcaaKept
import Derived.Outline
import Derived.Laws.Externs
import Derived.KernelRfl
namespace Go.Proofs.Yteekeoenbackcaa.Fb
open Go.RowKit Fl

@[go_sem] theorem run_bits (x : Nat) (w : World) : (callFunc 39 #[.float .f64 x]).run Try.prog w = .ok (.value (.int .u64 x)) w := by
  rw [run_callFunc_extern Try.func39 (by kernel_rfl) (by kernel_rfl) (by kernel_rfl) (e := Extern.MathFloatBits.float64bits) (by kernel_rfl)]
  rfl
@[go_sem] theorem run_frombits (n : Int) (w : World) : (callFunc 38 #[.int .u64 n]).run Try.prog w = .ok (.value (.float .f64 n.toNat)) w := by
  rw [run_callFunc_extern Try.func38 (by kernel_rfl) (by kernel_rfl) (by kernel_rfl) (e := Extern.MathFloatBits.float64frombits) (by kernel_rfl)]
  rfl
attribute [go_sem] run_fadd run_fsub run_fmul run_fquo

theorem bits_any (x : Nat) (w : World) :
    Calls Try.prog 29 #[.float .f64 x] w fun e w' => e = .returned (.int .u64 (cn x)) ∧ w = w' := by
  by_cases h : 9218868437227405312 < rg x
  · have h1 := t_ne_nan h
    go_enter Try.func29, Try.ntmps29
    go_wp2
    go_ret
    exact ⟨ret_int (by rw [cn_nan h]; rfl), rfl⟩
  · have h1 := t_ne_num (Nat.le_of_not_lt h)
    go_enter Try.func29, Try.ntmps29
    go_wp2
    go_ret
    exact ⟨ret_int (by rw [cn_num (Nat.le_of_not_lt h)]), rfl⟩
theorem rbits_any (x : Nat) (w : World) :
    Calls Try.prog 33 #[.float .f64 x] w fun e w' => e = .returned (.int .u64 (cn x)) ∧ w = w' := by
  by_cases h : 9218868437227405312 < rg x
  · have h1 := t_ne_nan h
    go_enter Try.func33, Try.ntmps33
    go_wp2
    go_ret
    exact ⟨ret_int (by rw [cn_nan h]; rfl), rfl⟩
  · have h1 := t_ne_num (Nat.le_of_not_lt h)
    go_enter Try.func33, Try.ntmps33
    go_wp2
    go_ret
    exact ⟨ret_int (by rw [cn_num (Nat.le_of_not_lt h)]), rfl⟩
/-- the number of some bits; every NaN is the one. -/
theorem from_any (b : Nat) (w : World) :
    Calls Try.prog 28 #[.int .u64 b] w fun e w' => e = .returned (.float .f64 (cn b)) ∧ w = w' := by
  go_enter Try.func28, Try.ntmps28
  go_wp2_with (go_at_call 29; refine (bits_any _ _).mono ?_; rintro e w' ⟨rfl, rfl⟩)
  go_ret
  exact ⟨rfl, rfl⟩
theorem rsame_any (x y : Nat) (w : World) :
    Calls Try.prog 15 #[.float .f64 x, .float .f64 y] w fun e w' => e = .returned (.bool (sameB x y)) ∧ w = w' := by
  go_enter Try.func15, Try.ntmps15
  go_wp2_with (go_at_call 33; refine (rbits_any _ _).mono ?_; rintro e w' ⟨rfl, rfl⟩)
  go_ret
  exact ⟨ret_bool (by unfold sameB; rw [Bool.eq_iff_iff]; simp; omega), rfl⟩
theorem rfrom_any (b : Nat) (w : World) (hb : b < 18446744073709551616) :
    Calls Try.prog 27 #[.int .u64 b] w fun e w' => e = .returned (.float .f64 (cn b)) ∧ w = w' := by
  have hs := andNot_sign b hb
  by_cases h : 9218868437227405312 < rg b
  · have h1 : decide (9218868437227405312 < bits .andNot .u64 (b : Int) 9223372036854775808) = true := decide_eq_true (by rw [hs]; omega)
    clear hs
    go_enter Try.func27, Try.ntmps27
    go_wp2
    go_ret
    exact ⟨by rw [cn_nan h]; rfl, rfl⟩
  · have h1 : decide (9218868437227405312 < bits .andNot .u64 (b : Int) 9223372036854775808) = false := decide_eq_false (by rw [hs]; omega)
    clear hs
    go_enter Try.func27, Try.ntmps27
    go_wp2
    go_ret
    exact ⟨by rw [cn_num (Nat.le_of_not_lt h)]; rfl, rfl⟩
end Go.Proofs.Yteekeoenbackcaa.Fb
