/- FbitsBack: the walk. For every 64 bits the law returns true, and nothing that was there is written. No condition. -/
import Derived.Test.YtmnnlchnobbogaaFbE
namespace Go.Proofs.Ytmnnlchnobbogaa.Fb
set_option linter.unusedSimpArgs false
set_option linter.unusedVariables false
open Go.RowKit Fl

attribute [local go_sem] and_sgn andNot_sgn xor_sgn xor_all run_neg_float u64_unsigned
theorem dec_enc {v : Nat} (hv : lt64 v) : decV ((encL v).take 8) = v := by
  have hv' : v < 18446744073709551616 := hv
  rw [List.take_of_length_le (by rw [encL_len]; omega)]
  have e : encL v = [byteV v 0, byteV v 1, byteV v 2, byteV v 3, byteV v 4, byteV v 5, byteV v 6, byteV v 7] := rfl
  rw [e]
  unfold decV byteV
  simp only [List.foldl_cons, List.foldl_nil, Int.toNat_natCast]
  simp only [show (2 : Nat) ^ (8 * (7 - 0)) = 72057594037927936 by decide, show (2 : Nat) ^ (8 * (7 - 1)) = 281474976710656 by decide, show (2 : Nat) ^ (8 * (7 - 2)) = 1099511627776 by decide, show (2 : Nat) ^ (8 * (7 - 3)) = 4294967296 by decide,
    show (2 : Nat) ^ (8 * (7 - 4)) = 16777216 by decide, show (2 : Nat) ^ (8 * (7 - 5)) = 65536 by decide, show (2 : Nat) ^ (8 * (7 - 6)) = 256 by decide, show (2 : Nat) ^ (8 * (7 - 7)) = 1 by decide]
  omega
theorem enc_wf (v : Nat) : ∀ x ∈ encL v, (Lit.int .u8 x).wf = true := by
  intro x hx
  obtain ⟨i, _, rfl⟩ := List.mem_map.1 hx
  unfold byteV
  generalize v / 2 ^ (8 * (7 - i)) = q
  have h2 : IntKind.u8.min ≤ ((q % 256 : Nat) : Int) ∧ ((q % 256 : Nat) : Int) ≤ IntKind.u8.max := by
    rw [show IntKind.u8.min = 0 by decide, show IntKind.u8.max = 255 by decide]
    omega
  simpa [Lit.wf] using h2
theorem out_ints {l : List Int} {w : World} {A : Option Addr} (hl : l.length = 8) (hw : ∀ x ∈ l, (Lit.int .u8 x).wf = true) (h : Rd w w.heap.size A (l.map (Value.int .u8))) : IsInts .u8 w A 8 8 l :=
  ⟨hl, h, hw, Nat.le_refl _, by unfold maxLen; omega⟩
set_option maxHeartbeats 1000000 in
theorem back_num (v : Nat) (w : World) (hv : lt64 v) (h : rg v ≤ 9218868437227405312) :
    Calls Try.prog 10 #[.int .u64 v] w fun e w' => e = .returned (.bool true) ∧ Below w.heap.size w w' := by
  have HF := from_num v w h
  have n1 := t_eq_num h
  have hcn := cn_num h
  have hde := dec_enc (lt64_cn hv)
  have t1 : decide (9218868437227405312 < ((rg v : Nat) : Int)) = false := decide_eq_false (by omega)
  have HD : ∀ (A1 : Option Addr) (w1 : World), IsInts .u8 w1 A1 8 8 (encL (cn v)) → Calls Try.prog 25 #[.slice A1 8 8] w1 fun e w' => e = .returned (.tuple #[.float .f64 v, .int .i64 0]) ∧ w1 = w' := fun A1 w1 hi =>
    (decode_ok A1 8 _ w1 hi (by rw [hde, hcn]; exact h)).mono fun _ _ ⟨he, hw⟩ => ⟨by rw [he, hde, hcn], hw⟩
  have HB := fun W : World => bits_num v W h
  have s1 : sameB v v = true := sameB_yes rfl
  clear h hcn hde
  go_enter Try.func10, Try.ntmps10
  go_wp2_with fail
  refine (HF).mono ?_
  rintro e w' ⟨rfl, rfl⟩
  go_wp2_with fail
  refine (encode_any _ _).mono ?_
  rintro e w1 ⟨A1, rfl, hr1, hb1⟩
  have K1 : Kp [] w w1 := (Kp.nil (w := w)).next hb1
  clear hb1
  have HI := out_ints (encL_len _) (enc_wf _) hr1
  clear hr1
  go_wp2_with fail
  refine (HD _ _ HI).mono ?_
  rintro e w' ⟨rfl, rfl⟩
  go_wp2_with fail
  refine (same_any _ _ _).mono ?_
  rintro e w' ⟨rfl, rfl⟩
  go_wp2_with fail
  refine (HB _).mono ?_
  rintro e w' ⟨rfl, rfl⟩
  go_wp2_with fail
  refine (awake_any _).mono ?_
  rintro e w' ⟨rfl, rfl⟩
  go_wp2_with fail
  go_ret
  exact ⟨rfl, K1.bel⟩
set_option maxHeartbeats 1000000 in
theorem back_nan (v : Nat) (w : World) (hv : lt64 v) (h : 9218868437227405312 < rg v) :
    Calls Try.prog 10 #[.int .u64 v] w fun e w' => e = .returned (.bool true) ∧ Below w.heap.size w w' := by
  have HF : Calls Try.prog 11 #[.int .u64 v] w fun e w' => e = .returned (.float .f64 9221120237041090560) ∧ w = w' := (from_any v w).mono fun _ _ ⟨he, hw⟩ => ⟨by rw [he, cn_nan h], hw⟩
  have n1 : (FloatKind.f64.format.order 9221120237041090560 9221120237041090560 != some .eq) = true := t_ne_nan (by decide)
  have hl : lt64 9221120237041090560 := by show (9221120237041090560 : Nat) < 18446744073709551616; omega
  have hde := dec_enc (lt64_cn hl)
  have t1 : decide (9218868437227405312 < ((rg v : Nat) : Int)) = true := decide_eq_true (by omega)
  have HD : ∀ (A1 : Option Addr) (w1 : World), IsInts .u8 w1 A1 8 8 (encL (cn 9221120237041090560)) → Calls Try.prog 25 #[.slice A1 8 8] w1 fun e w' => e = .returned (.tuple #[.float .f64 9221120237041090560, .int .i64 0]) ∧ w1 = w' := fun A1 w1 hi =>
    (decode_one A1 8 _ w1 hi (by rw [hde, cn_C0])).mono fun _ _ ⟨he, hw⟩ => ⟨he, hw⟩
  have HB : ∀ W : World, Calls Try.prog 14 #[.float .f64 9221120237041090560] W fun e w' => e = .returned (.int .u64 9221120237041090560) ∧ W = w' := fun W => (bits_any 9221120237041090560 W).mono fun _ _ ⟨he, hw⟩ => ⟨by rw [he, cn_C0]; rfl, hw⟩
  have HC := fun W : World => class_nan 9221120237041090560 W hl (by decide)
  have s1 : sameB 9221120237041090560 9221120237041090560 = true := sameB_yes rfl
  clear h hde hl
  go_enter Try.func10, Try.ntmps10
  go_wp2_with fail
  refine (HF).mono ?_
  rintro e w' ⟨rfl, rfl⟩
  go_wp2_with fail
  refine (encode_any _ _).mono ?_
  rintro e w1 ⟨A1, rfl, hr1, hb1⟩
  have K1 : Kp [] w w1 := (Kp.nil (w := w)).next hb1
  clear hb1
  have HI := out_ints (encL_len _) (enc_wf _) hr1
  clear hr1
  go_wp2_with fail
  refine (HD _ _ HI).mono ?_
  rintro e w' ⟨rfl, rfl⟩
  go_wp2_with fail
  refine (same_any _ _ _).mono ?_
  rintro e w' ⟨rfl, rfl⟩
  go_wp2_with fail
  refine (HB _).mono ?_
  rintro e w' ⟨rfl, rfl⟩
  go_wp2_with fail
  refine (HC _).mono ?_
  rintro e w' ⟨rfl, rfl⟩
  go_wp2_with fail
  refine (awake_any _).mono ?_
  rintro e w' ⟨rfl, rfl⟩
  go_wp2_with fail
  go_ret
  exact ⟨rfl, K1.bel⟩
theorem back_walk (v : Int) (w : World) (hv : (Lit.int .u64 v).wf = true) :
    Calls Try.prog 10 #[.int .u64 v] w fun e w' => e = .returned (.bool true) ∧ Below w.heap.size w w' := by
  obtain ⟨n, rfl, hn⟩ := u64_nat hv
  rcases Nat.lt_or_ge 9218868437227405312 (rg n) with h | h
  · exact back_nan n w hn h
  · exact back_num n w hn h
end Go.Proofs.Ytmnnlchnobbogaa.Fb
