/- FbitsSign: the walk. For every 64 bits the law returns true, and nothing that was there is written. No condition. -/
import Derived.Test.YtmnnlchnobbogaaFbL
namespace Go.Proofs.Ytmnnlchnobbogaa.Fb
set_option linter.unusedSimpArgs false
set_option linter.unusedVariables false
open Go.RowKit Fl
attribute [local go_sem] and_sgn andNot_sgn xor_sgn xor_all run_neg_float u64_unsigned

theorem class_bd (x : Nat) : 1 ≤ classV x ∧ classV x ≤ 9 := by unfold classV; repeat' split
                                                               all_goals omega
theorem class_flip {x : Nat} (h : rg x ≤ 9218868437227405312) : classV (flipV x) + classV x = 11 := by
  unfold classV
  rw [flip_rg, flip_ng]
  cases ng x <;> (repeat' split) <;> first | omega | simp_all
theorem class_flip_nan {x : Nat} (h : 9218868437227405312 < rg x) : classV (flipV x) = 1 := by
  unfold classV
  rw [flip_rg, if_pos h]
theorem key_flip {x : Nat} (hx : lt64 x) (h : rg x ≤ 9218868437227405312) : keyV (flipV x) = notV (keyV x) := by
  have hf := flip_lt hx
  unfold keyV
  rw [cn_num h, cn_num (by rw [flip_rg]; exact h), keyW_val hf, flip_ng, flip_rg]
  unfold notV
  rw [keyW_val hx]
  cases ng x <;> simp <;> omega
set_option maxHeartbeats 1000000 in
theorem sign_nan (v : Nat) (w : World) (hv : lt64 v) (h : 9218868437227405312 < rg v) :
    Calls Try.prog 3 #[.int .u64 v] w fun e w' => e = .returned (.bool true) ∧ Below w.heap.size w w' := by
  have hL := lt64_cn hv
  have hF := flip_lt hL
  have h2 := (cn_isnan v).2 h
  have t1 := t_ne_nan h2
  have HC := class_nan (flipV (cn v)) w hF (by rw [flip_rg]; exact h2)
  clear h h2
  go_enter Try.func3, Try.ntmps3
  go_wp2_with (first | (go_at_call 11; refine (from_any _ _).mono ?_; rintro e w' ⟨rfl, rfl⟩) | (go_at_call 12; refine (HC).mono ?_; rintro e w' ⟨rfl, rfl⟩) | (go_at_call 13; refine (awake_any _).mono ?_; rintro e w' ⟨rfl, rfl⟩))
  go_ret
  exact ⟨rfl, Below.refl _ _⟩
set_option maxHeartbeats 1000000 in
theorem sign_num (v : Nat) (w : World) (hv : lt64 v) (h : rg v ≤ 9218868437227405312) :
    Calls Try.prog 3 #[.int .u64 v] w fun e w' => e = .returned (.bool true) ∧ Below w.heap.size w w' := by
  have hF := flip_lt hv
  have t1 := t_ne_num h
  have HB := from_num v w h
  have c1 := bits_num v w h
  have c2 := bits_num (flipV v) w (by rw [flip_rg]; exact h)
  obtain ⟨b1, b2⟩ := class_bd v
  obtain ⟨b3, b4⟩ := class_bd (flipV v)
  have t2 : (classV (flipV v) + classV v == 11) = true := beq_iff_eq.2 (class_flip h)
  have hk : lt64 (keyV v) := keyW_lt (lt64_cn hv)
  have t3 : (((keyV (flipV v) : Nat) : Int) == ((notV (keyV v) : Nat) : Int)) = true := by rw [key_flip hv h]; exact beq_iff_eq.2 rfl
  clear h
  go_enter Try.func3, Try.ntmps3
  go_wp2_with fail
  refine (HB).mono ?_
  rintro e w' ⟨rfl, rfl⟩
  go_wp2_with fail
  refine (c2).mono ?_
  rintro e w' ⟨rfl, rfl⟩
  go_wp2_with fail
  refine (c1).mono ?_
  rintro e w' ⟨rfl, rfl⟩
  go_wp2_with fail
  refine (class_any _ _ hF).mono ?_
  rintro e w' ⟨rfl, rfl⟩
  go_wp2_with fail
  refine (class_any _ _ hv).mono ?_
  rintro e w' ⟨rfl, rfl⟩
  go_wp2_with fail
  refine (key_any _ _ hF).mono ?_
  rintro e w' ⟨rfl, rfl⟩
  go_wp2_with fail
  refine (key_any _ _ hv).mono ?_
  rintro e w' ⟨rfl, rfl⟩
  go_wp2_with fail
  refine (awake_any _).mono ?_
  rintro e w' ⟨rfl, rfl⟩
  go_wp2_with fail
  go_ret
  exact ⟨rfl, Below.refl _ _⟩
theorem sign_walk (v : Int) (w : World) (hv : (Lit.int .u64 v).wf = true) :
    Calls Try.prog 3 #[.int .u64 v] w fun e w' => e = .returned (.bool true) ∧ Below w.heap.size w w' := by
  obtain ⟨n, rfl, hn⟩ := u64_nat hv
  rcases Nat.lt_or_ge 9218868437227405312 (rg n) with h | h
  · exact sign_nan n w hn h
  · exact sign_num n w hn h
end Go.Proofs.Ytmnnlchnobbogaa.Fb
