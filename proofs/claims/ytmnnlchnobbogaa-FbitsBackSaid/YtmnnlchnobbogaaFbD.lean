/- Contracts of Decode of the packages fbits and scarpref1: what each returns, for every row of bytes. -/
import Derived.Test.YtmnnlchnobbogaaFbL
import Derived.Test.YtmnnlchnobbogaaRd
import Derived.LoopTactic
import Derived.Laws.BitsAllLaws
namespace Go.Proofs.Ytmnnlchnobbogaa.Fb
set_option linter.unusedSimpArgs false
set_option linter.unusedVariables false
open Go.RowKit Fl

attribute [local go_sem] and_sgn andNot_sgn xor_sgn xor_all run_neg_float u64_unsigned
/-- bytes as a number, the greatest first. -/
def decV (l : List Int) : Nat := l.foldl (fun v c => v * 256 + c.toNat) 0
theorem decV_snoc (l : List Int) (c : Int) : decV (l ++ [c]) = decV l * 256 + c.toNat := by unfold decV; rw [List.foldl_append]; rfl
theorem decV_take {l : List Int} {k : Nat} (h : k < l.length) : decV (l.take (k + 1)) = decV (l.take k) * 256 + l[k].toNat := by
  rw [List.take_succ_eq_append_getElem h, decV_snoc]
theorem byte_bd {c : Int} (h : (Lit.int .u8 c).wf = true) : 0 ≤ c ∧ c ≤ 255 := by
  have h2 : IntKind.u8.min ≤ c ∧ c ≤ IntKind.u8.max := by simpa [Lit.wf] using h
  rw [show IntKind.u8.min = 0 by decide, show IntKind.u8.max = 255 by decide] at h2
  exact h2
theorem decV_lt {l : List Int} (h : ∀ x ∈ l, (Lit.int .u8 x).wf = true) (k : Nat) (hk : k ≤ l.length) : decV (l.take k) < 256 ^ k := by
  induction k with
  | zero => simp [decV]
  | succ k ih =>
    have h1 := ih (by omega)
    have h2 := byte_bd (h (l[k]'(by omega)) (List.getElem_mem _))
    rw [decV_take (by omega), Nat.pow_succ]
    omega
theorem or_step {V : Nat} {z : Int} (hV : V < 72057594037927936) (hz : 0 ≤ z ∧ z ≤ 255) : bits .or .u64 (IntKind.u64.wrap ((V : Int) * 256)) (IntKind.u64.wrap z) = ((V * 256 + z.toNat : Nat) : Int) := by
  obtain ⟨n, rfl⟩ := Int.eq_ofNat_of_zero_le hz.1
  have e1 : IntKind.u64.wrap ((V : Int) * 256) = ((V * 256 : Nat) : Int) := by rw [IntKind.wrap_u64]; omega
  have e2 : IntKind.u64.wrap (n : Int) = (n : Int) := by rw [IntKind.wrap_u64]; omega
  rw [e1, e2, u64_or_nat _ _ (by omega) (by omega), nat_join 8 (V * 256) n (by omega) (by omega)]
  rfl
set_option maxHeartbeats 1000000 in
theorem decode_ok (A : Option Addr) (c : Nat) (l : List Int) (w : World) (h : IsInts .u8 w A 8 c l) (hc : rg (decV (l.take 8)) ≤ 9218868437227405312) :
    Calls Try.prog 25 #[.slice A 8 c] w fun e w' => e = .returned (.tuple #[.float .f64 (decV (l.take 8)), .int .i64 0]) ∧ w = w' := by
  have hlen := h.len
  have hV := decV_lt h.wf 8 (by omega)
  have hL : lt64 (decV (l.take 8)) := by show _ < 18446744073709551616; exact hV
  have t2 : (((cn ((decV (l.take 8))) : Nat) : Int) != ((decV (l.take 8) : Nat) : Int)) = false := by rw [cn_num hc, bne_eq_false_iff_eq]
  have HF : Calls Try.prog 11 #[.int .u64 (decV (l.take 8) : Nat)] w fun e w' => e = .returned (.float .f64 (decV (l.take 8))) ∧ w = w' := (from_any (decV (l.take 8)) w).mono fun _ _ ⟨he, hw⟩ => ⟨by rw [he, cn_num hc], hw⟩
  clear hV hc
  go_enter Try.func25, Try.ntmps25
  go_wp2_with fail
  go_loop [4, 13] (fun v i => ∃ k : Nat, k ≤ 8 ∧ i = .int .i64 k ∧ v = .int .u64 (decV (l.take k))) (fun _ i => 8 - (intOf i).toNat)
  case atStart => exact ⟨0, Nat.zero_le _, rfl, rfl⟩
  case round =>
    obtain ⟨k, hk, rfl, rfl⟩ := hrel
    by_cases hlt : k < 8
    · obtain ⟨ad, rfl, hb, hc⟩ := h.rd.get (k := k) (by rw [List.length_map, h.len]; exact hlt)
      rw [List.getElem_map] at hc
      have HZ := Lib.hid (byte_bd (h.wf (l[k]'(by omega)) (List.getElem_mem _)))
      have HV := Lib.hid (decV_lt h.wf k (by omega))
      go_wp2_with fail
      go_round
      case rel =>
        refine ⟨k + 1, by omega, by go_num, ?_⟩
        rw [decV_take (by omega), or_step (Nat.lt_of_lt_of_le HV.out (show 256 ^ k ≤ 256 ^ 7 from Nat.pow_le_pow_right (by omega) (by omega))) HZ.out]
      case measure => simp [intOf]; omega
    · obtain rfl : k = 8 := by omega
      go_wp2_with (first | (go_at_call 11; refine (HF).mono ?_; rintro e w' ⟨rfl, rfl⟩) | (go_at_call 14; refine (bits_any _ _).mono ?_; rintro e w' ⟨rfl, rfl⟩))
      go_ret2
      exact ⟨rfl, rfl⟩
set_option maxHeartbeats 1000000 in
theorem decode_one (A : Option Addr) (c : Nat) (l : List Int) (w : World) (h : IsInts .u8 w A 8 c l) (hc : decV (l.take 8) = 9221120237041090560) :
    Calls Try.prog 25 #[.slice A 8 c] w fun e w' => e = .returned (.tuple #[.float .f64 9221120237041090560, .int .i64 0]) ∧ w = w' := by
  have hlen := h.len
  have hV := decV_lt h.wf 8 (by omega)
  have hL : lt64 (decV (l.take 8)) := by show _ < 18446744073709551616; exact hV
  have t2 : (((cn (9221120237041090560) : Nat) : Int) != ((decV (l.take 8) : Nat) : Int)) = false := by rw [hc, cn_C0, bne_eq_false_iff_eq]
  have HF : Calls Try.prog 11 #[.int .u64 (decV (l.take 8) : Nat)] w fun e w' => e = .returned (.float .f64 9221120237041090560) ∧ w = w' := (from_any (decV (l.take 8)) w).mono fun _ _ ⟨he, hw⟩ => ⟨by rw [he, hc, cn_C0], hw⟩
  clear hV hc
  go_enter Try.func25, Try.ntmps25
  go_wp2_with fail
  go_loop [4, 13] (fun v i => ∃ k : Nat, k ≤ 8 ∧ i = .int .i64 k ∧ v = .int .u64 (decV (l.take k))) (fun _ i => 8 - (intOf i).toNat)
  case atStart => exact ⟨0, Nat.zero_le _, rfl, rfl⟩
  case round =>
    obtain ⟨k, hk, rfl, rfl⟩ := hrel
    by_cases hlt : k < 8
    · obtain ⟨ad, rfl, hb, hc⟩ := h.rd.get (k := k) (by rw [List.length_map, h.len]; exact hlt)
      rw [List.getElem_map] at hc
      have HZ := Lib.hid (byte_bd (h.wf (l[k]'(by omega)) (List.getElem_mem _)))
      have HV := Lib.hid (decV_lt h.wf k (by omega))
      go_wp2_with fail
      go_round
      case rel =>
        refine ⟨k + 1, by omega, by go_num, ?_⟩
        rw [decV_take (by omega), or_step (Nat.lt_of_lt_of_le HV.out (show 256 ^ k ≤ 256 ^ 7 from Nat.pow_le_pow_right (by omega) (by omega))) HZ.out]
      case measure => simp [intOf]; omega
    · obtain rfl : k = 8 := by omega
      go_wp2_with (first | (go_at_call 11; refine (HF).mono ?_; rintro e w' ⟨rfl, rfl⟩) | (go_at_call 14; refine (bits_any _ _).mono ?_; rintro e w' ⟨rfl, rfl⟩))
      go_ret2
      exact ⟨rfl, rfl⟩
set_option maxHeartbeats 1000000 in
theorem decode_odd (A : Option Addr) (c : Nat) (l : List Int) (w : World) (h : IsInts .u8 w A 8 c l) (hc : 9218868437227405312 < rg (decV (l.take 8))) (hc2 : decV (l.take 8) ≠ 9221120237041090560) :
    Calls Try.prog 25 #[.slice A 8 c] w fun e w' => e = .returned (.tuple #[.float .f64 0, .int .i64 13]) ∧ w = w' := by
  have hlen := h.len
  have hV := decV_lt h.wf 8 (by omega)
  have hL : lt64 (decV (l.take 8)) := by show _ < 18446744073709551616; exact hV
  have t2 : (((cn (cn (decV (l.take 8))) : Nat) : Int) != ((decV (l.take 8) : Nat) : Int)) = true := by rw [cn_cn, cn_nan hc]; exact bne_iff_ne.2 (by omega)
  have HF := from_any (decV (l.take 8)) w
  clear hV hc hc2
  go_enter Try.func25, Try.ntmps25
  go_wp2_with fail
  go_loop [4, 13] (fun v i => ∃ k : Nat, k ≤ 8 ∧ i = .int .i64 k ∧ v = .int .u64 (decV (l.take k))) (fun _ i => 8 - (intOf i).toNat)
  case atStart => exact ⟨0, Nat.zero_le _, rfl, rfl⟩
  case round =>
    obtain ⟨k, hk, rfl, rfl⟩ := hrel
    by_cases hlt : k < 8
    · obtain ⟨ad, rfl, hb, hc⟩ := h.rd.get (k := k) (by rw [List.length_map, h.len]; exact hlt)
      rw [List.getElem_map] at hc
      have HZ := Lib.hid (byte_bd (h.wf (l[k]'(by omega)) (List.getElem_mem _)))
      have HV := Lib.hid (decV_lt h.wf k (by omega))
      go_wp2_with fail
      go_round
      case rel =>
        refine ⟨k + 1, by omega, by go_num, ?_⟩
        rw [decV_take (by omega), or_step (Nat.lt_of_lt_of_le HV.out (show 256 ^ k ≤ 256 ^ 7 from Nat.pow_le_pow_right (by omega) (by omega))) HZ.out]
      case measure => simp [intOf]; omega
    · obtain rfl : k = 8 := by omega
      go_wp2_with (first | (go_at_call 11; refine (HF).mono ?_; rintro e w' ⟨rfl, rfl⟩) | (go_at_call 14; refine (bits_any _ _).mono ?_; rintro e w' ⟨rfl, rfl⟩))
      go_ret2
      exact ⟨rfl, rfl⟩
set_option maxHeartbeats 1000000 in
theorem decode_len (A : Option Addr) (n c : Nat) (w : World) (h : ((n : Int) != 8) = true) :
    Calls Try.prog 25 #[.slice A n c] w fun e w' => e = .returned (.tuple #[.float .f64 0, .int .i64 13]) ∧ w = w' := by
  go_enter Try.func25, Try.ntmps25
  go_wp2_with fail
  go_ret2
  exact ⟨rfl, rfl⟩
set_option maxHeartbeats 1000000 in
theorem rdecode_ok (A : Option Addr) (c : Nat) (l : List Int) (w : World) (h : IsInts .u8 w A 8 c l) (hc : rg (decV (l.take 8)) ≤ 9218868437227405312) :
    Calls Try.prog 26 #[.slice A 8 c] w fun e w' => e = .returned (.tuple #[.float .f64 (decV (l.take 8)), .int .i64 0]) ∧ w = w' := by
  have hlen := h.len
  have hV := decV_lt h.wf 8 (by omega)
  have hL : lt64 (decV (l.take 8)) := by show _ < 18446744073709551616; exact hV
  have t1 : decide (9218868437227405312 < ((rg (decV (l.take 8)) : Nat) : Int)) = false := decide_eq_false (by omega)
  have HF : Calls Try.prog 27 #[.int .u64 (decV (l.take 8) : Nat)] w fun e w' => e = .returned (.float .f64 (decV (l.take 8))) ∧ w = w' := (rfrom_any (decV (l.take 8)) w hV).mono fun _ _ ⟨he, hw⟩ => ⟨by rw [he, cn_num hc], hw⟩
  clear hV hc
  go_enter Try.func26, Try.ntmps26
  go_wp2_with fail
  go_loop [4, 5] (fun v i => ∃ k : Nat, k ≤ 8 ∧ i = .int .i64 k ∧ v = .int .u64 (decV (l.take k))) (fun _ i => 8 - (intOf i).toNat)
  case atStart => exact ⟨0, Nat.zero_le _, rfl, rfl⟩
  case round =>
    obtain ⟨k, hk, rfl, rfl⟩ := hrel
    by_cases hlt : k < 8
    · obtain ⟨ad, rfl, hb, hc⟩ := h.rd.get (k := k) (by rw [List.length_map, h.len]; exact hlt)
      rw [List.getElem_map] at hc
      have HZ := Lib.hid (byte_bd (h.wf (l[k]'(by omega)) (List.getElem_mem _)))
      have HV := Lib.hid (decV_lt h.wf k (by omega))
      go_wp2_with fail
      go_round
      case rel =>
        refine ⟨k + 1, by omega, by go_num, ?_⟩
        rw [decV_take (by omega), or_step (Nat.lt_of_lt_of_le HV.out (show 256 ^ k ≤ 256 ^ 7 from Nat.pow_le_pow_right (by omega) (by omega))) HZ.out]
      case measure => simp [intOf]; omega
    · obtain rfl : k = 8 := by omega
      go_wp2_with (go_at_call 27; refine (HF).mono ?_; rintro e w' ⟨rfl, rfl⟩)
      go_ret2
      exact ⟨rfl, rfl⟩
set_option maxHeartbeats 1000000 in
theorem rdecode_one (A : Option Addr) (c : Nat) (l : List Int) (w : World) (h : IsInts .u8 w A 8 c l) (hc : decV (l.take 8) = 9221120237041090560) :
    Calls Try.prog 26 #[.slice A 8 c] w fun e w' => e = .returned (.tuple #[.float .f64 9221120237041090560, .int .i64 0]) ∧ w = w' := by
  have hlen := h.len
  have hV := decV_lt h.wf 8 (by omega)
  have hL : lt64 (decV (l.take 8)) := by show _ < 18446744073709551616; exact hV
  have t1 : decide (9218868437227405312 < ((rg (decV (l.take 8)) : Nat) : Int)) = true := decide_eq_true (by rw [hc, rg_C0]; omega)
  have t2 : (((decV (l.take 8) : Nat) : Int) != 9221120237041090560) = false := by rw [hc]; rfl
  have HF : Calls Try.prog 27 #[.int .u64 (decV (l.take 8) : Nat)] w fun e w' => e = .returned (.float .f64 9221120237041090560) ∧ w = w' := (rfrom_any (decV (l.take 8)) w hV).mono fun _ _ ⟨he, hw⟩ => ⟨by rw [he, hc, cn_C0], hw⟩
  clear hV hc
  go_enter Try.func26, Try.ntmps26
  go_wp2_with fail
  go_loop [4, 5] (fun v i => ∃ k : Nat, k ≤ 8 ∧ i = .int .i64 k ∧ v = .int .u64 (decV (l.take k))) (fun _ i => 8 - (intOf i).toNat)
  case atStart => exact ⟨0, Nat.zero_le _, rfl, rfl⟩
  case round =>
    obtain ⟨k, hk, rfl, rfl⟩ := hrel
    by_cases hlt : k < 8
    · obtain ⟨ad, rfl, hb, hc⟩ := h.rd.get (k := k) (by rw [List.length_map, h.len]; exact hlt)
      rw [List.getElem_map] at hc
      have HZ := Lib.hid (byte_bd (h.wf (l[k]'(by omega)) (List.getElem_mem _)))
      have HV := Lib.hid (decV_lt h.wf k (by omega))
      go_wp2_with fail
      go_round
      case rel =>
        refine ⟨k + 1, by omega, by go_num, ?_⟩
        rw [decV_take (by omega), or_step (Nat.lt_of_lt_of_le HV.out (show 256 ^ k ≤ 256 ^ 7 from Nat.pow_le_pow_right (by omega) (by omega))) HZ.out]
      case measure => simp [intOf]; omega
    · obtain rfl : k = 8 := by omega
      go_wp2_with (go_at_call 27; refine (HF).mono ?_; rintro e w' ⟨rfl, rfl⟩)
      go_ret2
      exact ⟨rfl, rfl⟩
set_option maxHeartbeats 1000000 in
theorem rdecode_odd (A : Option Addr) (c : Nat) (l : List Int) (w : World) (h : IsInts .u8 w A 8 c l) (hc : 9218868437227405312 < rg (decV (l.take 8))) (hc2 : decV (l.take 8) ≠ 9221120237041090560) :
    Calls Try.prog 26 #[.slice A 8 c] w fun e w' => e = .returned (.tuple #[.float .f64 0, .int .i64 13]) ∧ w = w' := by
  have hlen := h.len
  have hV := decV_lt h.wf 8 (by omega)
  have hL : lt64 (decV (l.take 8)) := by show _ < 18446744073709551616; exact hV
  have t1 : decide (9218868437227405312 < ((rg (decV (l.take 8)) : Nat) : Int)) = true := decide_eq_true (by omega)
  have t2 : (((decV (l.take 8) : Nat) : Int) != 9221120237041090560) = true := bne_iff_ne.2 (by omega)
  clear hV hc hc2
  go_enter Try.func26, Try.ntmps26
  go_wp2_with fail
  go_loop [4, 5] (fun v i => ∃ k : Nat, k ≤ 8 ∧ i = .int .i64 k ∧ v = .int .u64 (decV (l.take k))) (fun _ i => 8 - (intOf i).toNat)
  case atStart => exact ⟨0, Nat.zero_le _, rfl, rfl⟩
  case round =>
    obtain ⟨k, hk, rfl, rfl⟩ := hrel
    by_cases hlt : k < 8
    · obtain ⟨ad, rfl, hb, hc⟩ := h.rd.get (k := k) (by rw [List.length_map, h.len]; exact hlt)
      rw [List.getElem_map] at hc
      have HZ := Lib.hid (byte_bd (h.wf (l[k]'(by omega)) (List.getElem_mem _)))
      have HV := Lib.hid (decV_lt h.wf k (by omega))
      go_wp2_with fail
      go_round
      case rel =>
        refine ⟨k + 1, by omega, by go_num, ?_⟩
        rw [decV_take (by omega), or_step (Nat.lt_of_lt_of_le HV.out (show 256 ^ k ≤ 256 ^ 7 from Nat.pow_le_pow_right (by omega) (by omega))) HZ.out]
      case measure => simp [intOf]; omega
    · obtain rfl : k = 8 := by omega
      go_wp2_with fail
      go_ret2
      exact ⟨rfl, rfl⟩
set_option maxHeartbeats 1000000 in
theorem rdecode_len (A : Option Addr) (n c : Nat) (w : World) (h : ((n : Int) != 8) = true) :
    Calls Try.prog 26 #[.slice A n c] w fun e w' => e = .returned (.tuple #[.float .f64 0, .int .i64 13]) ∧ w = w' := by
  go_enter Try.func26, Try.ntmps26
  go_wp2_with fail
  go_ret2
  exact ⟨rfl, rfl⟩
end Go.Proofs.Ytmnnlchnobbogaa.Fb
