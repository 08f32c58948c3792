/- Contracts of the packages fbits and scarpref1: Bits, From, Same: what each returns, for every number. -/
import Derived.Test.YthiiicgibcgipaaChecked
import Derived.Test.YthiiicgibcgipaaFlD
import Derived.Test.YthiiicgibcgipaaKept
import Derived.Outline
import Derived.Laws.Externs
import Derived.KernelRfl
namespace Go.Proofs.Ythiiicgibcgipaa.Fb
open Go.RowKit Fl

@[go_sem] theorem run_bits (x : Nat) (w : World) : (callFunc 41 #[.float .f64 x]).run Try.prog w = .ok (.value (.int .u64 x)) w := by
  rw [run_callFunc_extern Try.func41 (by kernel_rfl) (by kernel_rfl) (by kernel_rfl) (e := Extern.MathFloatBits.float64bits) (by kernel_rfl)]
  rfl
@[go_sem] theorem run_frombits (n : Int) (w : World) : (callFunc 40 #[.int .u64 n]).run Try.prog w = .ok (.value (.float .f64 n.toNat)) w := by
  rw [run_callFunc_extern Try.func40 (by kernel_rfl) (by kernel_rfl) (by kernel_rfl) (e := Extern.MathFloatBits.float64frombits) (by kernel_rfl)]
  rfl
attribute [go_sem] run_fadd run_fsub run_fmul run_fquo

theorem bits_any (x : Nat) (w : World) :
    Calls Try.prog 43 #[.float .f64 x] w fun e w' => e = .returned (.int .u64 (cn x)) ∧ w = w' := by
  by_cases h : 9218868437227405312 < rg x
  · have h1 := t_ne_nan h
    go_enter Try.func43, Try.ntmps43
    go_wp2
    go_ret
    exact ⟨ret_int (by rw [cn_nan h]; rfl), rfl⟩
  · have h1 := t_ne_num (Nat.le_of_not_lt h)
    go_enter Try.func43, Try.ntmps43
    go_wp2
    go_ret
    exact ⟨ret_int (by rw [cn_num (Nat.le_of_not_lt h)]), rfl⟩
theorem rbits_any (x : Nat) (w : World) :
    Calls Try.prog 32 #[.float .f64 x] w fun e w' => e = .returned (.int .u64 (cn x)) ∧ w = w' := by
  by_cases h : 9218868437227405312 < rg x
  · have h1 := t_ne_nan h
    go_enter Try.func32, Try.ntmps32
    go_wp2
    go_ret
    exact ⟨ret_int (by rw [cn_nan h]; rfl), rfl⟩
  · have h1 := t_ne_num (Nat.le_of_not_lt h)
    go_enter Try.func32, Try.ntmps32
    go_wp2
    go_ret
    exact ⟨ret_int (by rw [cn_num (Nat.le_of_not_lt h)]), rfl⟩
/-- the number of some bits; every NaN is the one. -/
theorem from_any (b : Nat) (w : World) :
    Calls Try.prog 42 #[.int .u64 b] w fun e w' => e = .returned (.float .f64 (cn b)) ∧ w = w' := by
  go_enter Try.func42, Try.ntmps42
  go_wp2_with (go_at_call 43; refine (bits_any _ _).mono ?_; rintro e w' ⟨rfl, rfl⟩)
  go_ret
  exact ⟨rfl, rfl⟩
theorem rsame_any (x y : Nat) (w : World) :
    Calls Try.prog 17 #[.float .f64 x, .float .f64 y] w fun e w' => e = .returned (.bool (sameB x y)) ∧ w = w' := by
  go_enter Try.func17, Try.ntmps17
  go_wp2_with (go_at_call 32; refine (rbits_any _ _).mono ?_; rintro e w' ⟨rfl, rfl⟩)
  go_ret
  exact ⟨ret_bool (by unfold sameB; rw [Bool.eq_iff_iff]; simp; omega), rfl⟩
theorem rfrom_any (b : Nat) (w : World) (hb : b < 18446744073709551616) :
    Calls Try.prog 34 #[.int .u64 b] w fun e w' => e = .returned (.float .f64 (cn b)) ∧ w = w' := by
  have hs := andNot_sign b hb
  by_cases h : 9218868437227405312 < rg b
  · have h1 : decide (9218868437227405312 < bits .andNot .u64 (b : Int) 9223372036854775808) = true := decide_eq_true (by rw [hs]; omega)
    clear hs
    go_enter Try.func34, Try.ntmps34
    go_wp2
    go_ret
    exact ⟨by rw [cn_nan h]; rfl, rfl⟩
  · have h1 : decide (9218868437227405312 < bits .andNot .u64 (b : Int) 9223372036854775808) = false := decide_eq_false (by rw [hs]; omega)
    clear hs
    go_enter Try.func34, Try.ntmps34
    go_wp2
    go_ret
    exact ⟨by rw [cn_num (Nat.le_of_not_lt h)]; rfl, rfl⟩
end Go.Proofs.Ythiiicgibcgipaa.Fb
