/- Contracts of fsum.plain, negative, Sum and of the reference sum: what each returns, for every list of numbers. -/
import Derived.Test.YthiiicgibcgipaaFbC
import Derived.Test.YthiiicgibcgipaaFlS
import Derived.Test.YthiiicgibcgipaaRd
import Derived.LoopTactic
import Derived.Lib.Hide
import Derived.Deep.QuietTactic
import Derived.BigQuiet
import Derived.Deep.RegionWith
namespace Go.Proofs.Ythiiicgibcgipaa.Fs
set_option linter.unusedSimpArgs false
set_option linter.unusedVariables false
open Go.RowKit Fl Fb
attribute [local go_sem] and_sgn andNot_sgn xor_sgn xor_all run_neg_float u64_unsigned

set_option maxHeartbeats 1000000 in
theorem plain_any (x : Nat) (w : World) :
    Calls Try.prog 31 #[.float .f64 x] w fun e w' => e = .returned (.float .f64 (cn x)) ∧ w = w' := by
  go_enter Try.func31, Try.ntmps31
  go_wp2_with (first | (go_at_call 43; refine (bits_any _ _).mono ?_; rintro e w' ⟨rfl, rfl⟩) | (go_at_call 42; refine (from_any _ _).mono ?_; rintro e w' ⟨rfl, rfl⟩))
  go_ret
  exact ⟨congrArg (fun v => Ending.returned (Value.float .f64 v)) (cn_cn x), rfl⟩
theorem neg_short {l : List Nat} {k : Nat} (hk : k < l.length) (h : classV l[k] ≠ 5) : negAll l = false := by
  unfold negAll
  have : l.all (fun x => classV x == 5) = false := by
    rw [List.all_eq_false]
    exact ⟨l[k], List.getElem_mem _, by simpa using h⟩
  rw [this]; rfl
theorem neg_all {l : List Nat} (h : ∀ k, (hk : k < l.length) → classV l[k] = 5) (h0 : 0 < l.length) : negAll l = true := by
  unfold negAll
  have : l.all (fun x => classV x == 5) = true := by
    rw [List.all_eq_true]
    intro x hx
    obtain ⟨i, hi, rfl⟩ := List.getElem_of_mem hx
    simpa using h i hi
  rw [this]
  cases l
  · simp at h0
  · rfl
set_option maxHeartbeats 1000000 in
theorem neg_any (A : Option Addr) (n c : Nat) (l : List Nat) (w : World) (h : IsNums w A n c l) (hn : n ≤ 1000000) :
    Calls Try.prog 28 #[.slice A n c] w fun e w' => e = .returned (.bool (negAll l)) ∧ w = w' := by
  have hl := h.len
  go_enter Try.func28, Try.ntmps28
  go_wp2_with fail
  go_loop [7] (fun i => ∃ k : Nat, k ≤ n ∧ i = .int .i64 k ∧ ∀ j, (hj : j < l.length) → j < k → classV l[j] = 5) (fun i => n - (intOf i).toNat)
  case atStart => exact ⟨0, Nat.zero_le _, rfl, fun j _ hj => absurd hj (by omega)⟩
  case round =>
    obtain ⟨k, hk, rfl, hall⟩ := hrel
    have HA := Lib.hid hall
    clear hall
    by_cases hlt : k < n
    · obtain ⟨ad, rfl, hb, hc⟩ := h.rd.get (k := k) (by rw [List.length_map]; omega)
      rw [List.getElem_map] at hc
      have hx : lt64 (l[k]'(by omega)) := h.wf _ (List.getElem_mem _)
      by_cases h5 : classV (l[k]'(by omega)) = 5
      · have t5 : (classV (l[k]'(by omega)) != 5) = false := by rw [h5]; rfl
        have H5 := Lib.hid h5
        clear h5
        go_wp2_with (go_at_call 39; refine (class_any _ _ hx).mono ?_; rintro e w' ⟨rfl, rfl⟩)
        go_round
        case rel =>
          refine ⟨k + 1, by omega, by go_num, fun j hj hjk => ?_⟩
          by_cases hjl : j < k
          · exact HA.out j hj hjl
          · obtain rfl : j = k := by omega
            exact H5.out
        case measure => simp [intOf]; omega
      · have t5 : (classV (l[k]'(by omega)) != 5) = true := by simpa using h5
        have HE := Lib.hid (neg_short (l := l) (k := k) (by omega) h5)
        clear h5
        go_wp2_with (go_at_call 39; refine (class_any _ _ hx).mono ?_; rintro e w' ⟨rfl, rfl⟩)
        go_ret
        exact ⟨ret_bool (by rw [HE.out]), rfl⟩
    · obtain rfl : k = n := by omega
      by_cases h0 : 0 < k
      · go_wp2_with fail
        go_ret
        exact ⟨ret_bool (by rw [neg_all (fun j hj => HA.out j hj (by omega)) (by omega)]), rfl⟩
      · go_wp2_with fail
        go_ret
        obtain rfl : l = [] := List.eq_nil_of_length_eq_zero (by omega)
        exact ⟨ret_bool (by rw [negAll_nil]), rfl⟩
theorem cs1 : bits .andNot .u64 0 9223372036854775808 = 0 := by decide
theorem cs2 : bits .and .u64 13830554455654793216 9223372036854775808 = 9223372036854775808 := by decide
theorem cs3 : bits .or .u64 0 9223372036854775808 = 9223372036854775808 := by decide
attribute [local go_sem] cs1 cs2 cs3
set_option maxHeartbeats 1000000 in
theorem copysign_any  (w : World) :
    Calls Try.prog 29 #[.float .f64 0, .float .f64 13830554455654793216] w fun e w' => e = .returned (.float .f64 9223372036854775808) ∧ w = w' := by
  go_enter Try.func29, Try.ntmps29
  go_wp2_with fail
  go_ret
  exact ⟨rfl, rfl⟩
set_option maxHeartbeats 1000000 in
theorem sum_neg (A : Option Addr) (n c : Nat) (l : List Nat) (w : World) (h : IsNums w A n c l) (hn : n ≤ 1000000) (hneg : negAll l = true) :
    Calls Try.prog 14 #[.slice A n c] w fun e w' => e = .returned (.float .f64 9223372036854775808) ∧ Below w.heap.size w w' := by
  go_enter Try.func14, Try.ntmps14
  go_wp2_with fail
  refine (neg_any _ _ _ _ _ h hn).mono ?_
  rintro e w' ⟨rfl, rfl⟩
  go_wp2_with fail
  refine (copysign_any _).mono ?_
  rintro e w' ⟨rfl, rfl⟩
  go_wp2_with fail
  go_ret
  exact ⟨rfl, Below.refl _ _⟩
set_option maxHeartbeats 1000000 in
theorem sum_pos (A : Option Addr) (n c : Nat) (l : List Nat) (w : World) (h : IsNums w A n c l) (hn : n ≤ 1000000) (hneg : negAll l = false) :
    Calls Try.prog 14 #[.slice A n c] w fun e w' => e = .returned (.float .f64 (sumV l)) ∧ Below w.heap.size w w' := by
  have hl := h.len
  go_enter Try.func14, Try.ntmps14
  go_wp2_with fail
  refine (neg_any _ _ _ _ _ h hn).mono ?_
  rintro e w' ⟨rfl, rfl⟩
  go_wp2_with fail
  go_loopw [3, 4, 13] (fun vs vc i wr => ∃ k s c q : Nat, k ≤ n ∧ i = .int .i64 k ∧ vs = .float .f64 s ∧ vc = .float .f64 c ∧ lt64 s ∧ lt64 c ∧ Hid (cn s = (partV (l.take k)).1 ∧ cn c = (partV (l.take k)).2) ∧ wr = w.drewN q) (fun _ _ i _ => n - (intOf i).toNat)
  case atStart => exact ⟨0, 0, 0, 0, Nat.zero_le _, rfl, rfl, rfl, by show (0 : Nat) < 18446744073709551616; omega, by show (0 : Nat) < 18446744073709551616; omega, ⟨rfl, rfl⟩, rfl⟩
  case round =>
    obtain ⟨k, s, c, q, hk, rfl, rfl, rfl, hs, hc, HS, rfl⟩ := hrel
    by_cases hlt : k < n
    · obtain ⟨ad, rfl, hb, hcell⟩ := h.rd.get (k := k) (by rw [List.length_map]; omega)
      rw [List.getElem_map] at hcell
      have hx : lt64 (l[k]'(by omega)) := h.wf _ (List.getElem_mem _)
      have HP := Lib.hid (partV_take (l := l) (k := k) (by omega))
      cases hb : magGe s (l[k]'(by omega))
      all_goals
        have ht := (magGe_test s (l[k]'(by omega))).trans hb
        have HB := Lib.hid hb
        clear hb
        go_wp2_with fail
        refine (abs_any s _ hs).mono ?_
        rintro e w' ⟨rfl, rfl⟩
        go_wp2_with fail
        refine (abs_any _ _ hx).mono ?_
        rintro e w' ⟨rfl, rfl⟩
        go_wp2_with fail
        go_roundw
        case rel =>
          exact ⟨k + 1, _, _, _, by omega, by go_num, rfl, rfl, fR_lt _ _ _ _, fR_lt _ _ _ _, ⟨by rw [HP.out]; exact step_s HS.out.1 _, by rw [HP.out]; exact step_c HS.out.1 HS.out.2 _ HB.out _ _ _ _⟩, rfl⟩
        case measure => simp [intOf]; omega
    · obtain rfl : k = n := by omega
      have HE := Lib.hid (show sumV l = endV (cn s, cn c) by unfold sumV; rw [hneg, if_neg (by decide), HS.out.1, HS.out.2, List.take_of_length_le (by omega)])
      clear HS
      rcases Nat.lt_or_ge 9218868437227405312 (rg c) with hcn | hcn
      · have t1 := t_ne_nan hcn
        have HF := Lib.hid (show sumV l = cn s by rw [HE.out]; unfold endV; rw [if_pos ((cn_isnan c).2 hcn), cn_cn])
        clear hcn HE
        go_wp2_with (go_at_call 31; refine (plain_any _ _).mono ?_; rintro e w' ⟨rfl, rfl⟩)
        go_ret
        exact ⟨by rw [HF.out]; rfl, below_drawn w q⟩
      · have t1 := t_ne_num hcn
        have HF := Lib.hid (show sumV l = fop .add s c by rw [HE.out]; unfold endV; rw [if_neg (show ¬ 9218868437227405312 < rg (cn c) by have := cn_isnan c; omega), fop_cn])
        clear hcn HE
        go_wp2_with (go_at_call 31; refine (plain_any _ _).mono ?_; rintro e w' ⟨rfl, rfl⟩)
        go_ret
        exact ⟨by rw [HF.out, ← cn_fR]; rfl, ⟨rfl, rfl, rfl, Nat.le_refl _, fun _ _ => rfl⟩⟩
theorem sum_any (A : Option Addr) (n c : Nat) (l : List Nat) (w : World) (h : IsNums w A n c l) (hn : n ≤ 1000000) :
    Calls Try.prog 14 #[.slice A n c] w fun e w' => e = .returned (.float .f64 (sumV l)) ∧ Below w.heap.size w w' := by
  cases hb : negAll l
  · exact sum_pos A n c l w h hn hb
  · rw [show sumV l = 9223372036854775808 by unfold sumV; rw [hb]; rfl]
    exact sum_neg A n c l w h hn hb
end Go.Proofs.Ythiiicgibcgipaa.Fs
