/- Contracts of Same, Next, Prev of the packages fbits and scarpref1: what each returns, for every number. -/
import Derived.Test.YtmnnlchnobbogaaFbC
import Derived.Test.YtmnnlchnobbogaaFbK
import Derived.Lib.Hide
namespace Go.Proofs.Ytmnnlchnobbogaa.Fb
set_option linter.unusedSimpArgs false
set_option linter.unusedVariables false
open Go.RowKit Fl

attribute [local go_sem] and_sgn andNot_sgn xor_sgn xor_all run_neg_float u64_unsigned
theorem from_int (n : Int) (w : World) :
    Calls Try.prog 11 #[.int .u64 n] w fun e w' => e = .returned (.float .f64 (cn n.toNat)) ∧ w = w' := by
  go_enter Try.func11, Try.ntmps11
  go_wp2_with (go_at_call 14; refine (bits_any _ _).mono ?_; rintro e w' ⟨rfl, rfl⟩)
  go_ret
  exact ⟨rfl, rfl⟩
theorem same_any (x y : Nat) (w : World) :
    Calls Try.prog 16 #[.float .f64 x, .float .f64 y] w fun e w' => e = .returned (.bool (sameB x y)) ∧ w = w' := by
  go_enter Try.func16, Try.ntmps16
  go_wp2_with (go_at_call 14; refine (bits_any _ _).mono ?_; rintro e w' ⟨rfl, rfl⟩)
  go_ret
  exact ⟨ret_bool (by unfold sameB; rw [Bool.eq_iff_iff]; simp; omega), rfl⟩
theorem bits_num (x : Nat) (w : World) (h : rg x ≤ 9218868437227405312) :
    Calls Try.prog 14 #[.float .f64 x] w fun e w' => e = .returned (.int .u64 x) ∧ w = w' :=
  (bits_any x w).mono fun _ _ ⟨he, hw⟩ => ⟨by rw [cn_num h] at he; exact he, hw⟩
theorem rbits_num (x : Nat) (w : World) (h : rg x ≤ 9218868437227405312) :
    Calls Try.prog 20 #[.float .f64 x] w fun e w' => e = .returned (.int .u64 x) ∧ w = w' :=
  (rbits_any x w).mono fun _ _ ⟨he, hw⟩ => ⟨by rw [cn_num h] at he; exact he, hw⟩
theorem next_nan (x : Nat) (w : World) (hx : lt64 x) (h : 9218868437227405312 < rg x) :
    Calls Try.prog 17 #[.float .f64 x] w fun e w' => e = .returned (.float .f64 (9221120237041090560)) ∧ w = w' := by
  go_enter Try.func17, Try.ntmps17
  go_wp2_with (first | (go_at_call 12; refine (class_nan _ _ hx h).mono ?_; rintro e w' ⟨rfl, rfl⟩) | (go_at_call 14; refine (bits_any _ _).mono ?_; rintro e w' ⟨rfl, rfl⟩) | (go_at_call 11; refine (from_int _ _).mono ?_; rintro e w' ⟨rfl, rfl⟩))
  go_ret
  exact ⟨by rw [← cn_nan h]; simp [cn_cn], rfl⟩
theorem next_zero_true (x : Nat) (w : World) (hx : lt64 x) (h : rg x = 0) (hs : ng x = true) :
    Calls Try.prog 17 #[.float .f64 x] w fun e w' => e = .returned (.float .f64 (1)) ∧ w = w' := by
  have HC := class_zero_true x w hx h hs
  clear h hs
  go_enter Try.func17, Try.ntmps17
  go_wp2_with (first | (go_at_call 12; refine (HC).mono ?_; rintro e w' ⟨rfl, rfl⟩) | (go_at_call 14; refine (bits_any _ _).mono ?_; rintro e w' ⟨rfl, rfl⟩) | (go_at_call 11; refine (from_int _ _).mono ?_; rintro e w' ⟨rfl, rfl⟩))
  go_ret
  exact ⟨rfl, rfl⟩
theorem next_zero_false (x : Nat) (w : World) (hx : lt64 x) (h : rg x = 0) (hs : ng x = false) :
    Calls Try.prog 17 #[.float .f64 x] w fun e w' => e = .returned (.float .f64 (1)) ∧ w = w' := by
  have HC := class_zero_false x w hx h hs
  clear h hs
  go_enter Try.func17, Try.ntmps17
  go_wp2_with (first | (go_at_call 12; refine (HC).mono ?_; rintro e w' ⟨rfl, rfl⟩) | (go_at_call 14; refine (bits_any _ _).mono ?_; rintro e w' ⟨rfl, rfl⟩) | (go_at_call 11; refine (from_int _ _).mono ?_; rintro e w' ⟨rfl, rfl⟩))
  go_ret
  exact ⟨rfl, rfl⟩
theorem next_inf (x : Nat) (w : World) (hx : lt64 x) (h : rg x = 9218868437227405312) (hs : ng x = false) :
    Calls Try.prog 17 #[.float .f64 x] w fun e w' => e = .returned (.float .f64 (x)) ∧ w = w' := by
  have HC := class_inf_false x w hx h hs
  have hc := cn_num (show rg x ≤ 9218868437227405312 by omega)
  have H := Lib.hid hc
  clear h hs hc
  go_enter Try.func17, Try.ntmps17
  go_wp2_with (first | (go_at_call 12; refine (HC).mono ?_; rintro e w' ⟨rfl, rfl⟩) | (go_at_call 14; refine (bits_any _ _).mono ?_; rintro e w' ⟨rfl, rfl⟩) | (go_at_call 11; refine (from_int _ _).mono ?_; rintro e w' ⟨rfl, rfl⟩))
  go_ret
  exact ⟨by simp [cn_cn, H.out], rfl⟩
theorem next_sub_true (x : Nat) (w : World) (hx : lt64 x) (h : 0 < rg x ∧ rg x < 4503599627370496) (hs : ng x = true) :
    Calls Try.prog 17 #[.float .f64 x] w fun e w' => e = .returned (.float .f64 (nextV x)) ∧ w = w' := by
  have HC := class_sub_true x w hx h hs
  have HB := bits_num x w (by omega)
  obtain ⟨s1, s2⟩ := sgn_yes hs
  have HE := Lib.hid (pred_cn hx hs (by omega) (by omega))
  have HN := Lib.hid (next_down hs (by omega) (by omega))
  clear h hs
  go_enter Try.func17, Try.ntmps17
  go_wp2_with (first | (go_at_call 12; refine (HC).mono ?_; rintro e w' ⟨rfl, rfl⟩) | (go_at_call 14; refine (HB).mono ?_; rintro e w' ⟨rfl, rfl⟩) | (go_at_call 11; refine (from_int _ _).mono ?_; rintro e w' ⟨rfl, rfl⟩))
  go_ret
  exact ⟨congrArg (fun v => Ending.returned (Value.float .f64 v)) (HE.out.trans HN.out.symm), rfl⟩
theorem next_sub_false (x : Nat) (w : World) (hx : lt64 x) (h : 0 < rg x ∧ rg x < 4503599627370496) (hs : ng x = false) :
    Calls Try.prog 17 #[.float .f64 x] w fun e w' => e = .returned (.float .f64 (nextV x)) ∧ w = w' := by
  have HC := class_sub_false x w hx h hs
  have HB := bits_num x w (by omega)
  obtain ⟨s1, s2⟩ := sgn_no hs
  have HE := Lib.hid (succ_cn hx hs (by omega))
  have HN := Lib.hid (next_up hx hs (by omega))
  clear h hs
  go_enter Try.func17, Try.ntmps17
  go_wp2_with (first | (go_at_call 12; refine (HC).mono ?_; rintro e w' ⟨rfl, rfl⟩) | (go_at_call 14; refine (HB).mono ?_; rintro e w' ⟨rfl, rfl⟩) | (go_at_call 11; refine (from_int _ _).mono ?_; rintro e w' ⟨rfl, rfl⟩))
  go_ret
  exact ⟨congrArg (fun v => Ending.returned (Value.float .f64 v)) (HE.out.trans HN.out.symm), rfl⟩
theorem next_num_true (x : Nat) (w : World) (hx : lt64 x) (h : 4503599627370496 ≤ rg x ∧ rg x < 9218868437227405312) (hs : ng x = true) :
    Calls Try.prog 17 #[.float .f64 x] w fun e w' => e = .returned (.float .f64 (nextV x)) ∧ w = w' := by
  have HC := class_num_true x w hx h hs
  have HB := bits_num x w (by omega)
  obtain ⟨s1, s2⟩ := sgn_yes hs
  have HE := Lib.hid (pred_cn hx hs (by omega) (by omega))
  have HN := Lib.hid (next_down hs (by omega) (by omega))
  clear h hs
  go_enter Try.func17, Try.ntmps17
  go_wp2_with (first | (go_at_call 12; refine (HC).mono ?_; rintro e w' ⟨rfl, rfl⟩) | (go_at_call 14; refine (HB).mono ?_; rintro e w' ⟨rfl, rfl⟩) | (go_at_call 11; refine (from_int _ _).mono ?_; rintro e w' ⟨rfl, rfl⟩))
  go_ret
  exact ⟨congrArg (fun v => Ending.returned (Value.float .f64 v)) (HE.out.trans HN.out.symm), rfl⟩
theorem next_num_false (x : Nat) (w : World) (hx : lt64 x) (h : 4503599627370496 ≤ rg x ∧ rg x < 9218868437227405312) (hs : ng x = false) :
    Calls Try.prog 17 #[.float .f64 x] w fun e w' => e = .returned (.float .f64 (nextV x)) ∧ w = w' := by
  have HC := class_num_false x w hx h hs
  have HB := bits_num x w (by omega)
  obtain ⟨s1, s2⟩ := sgn_no hs
  have HE := Lib.hid (succ_cn hx hs (by omega))
  have HN := Lib.hid (next_up hx hs (by omega))
  clear h hs
  go_enter Try.func17, Try.ntmps17
  go_wp2_with (first | (go_at_call 12; refine (HC).mono ?_; rintro e w' ⟨rfl, rfl⟩) | (go_at_call 14; refine (HB).mono ?_; rintro e w' ⟨rfl, rfl⟩) | (go_at_call 11; refine (from_int _ _).mono ?_; rintro e w' ⟨rfl, rfl⟩))
  go_ret
  exact ⟨congrArg (fun v => Ending.returned (Value.float .f64 v)) (HE.out.trans HN.out.symm), rfl⟩
theorem next_inf_true (x : Nat) (w : World) (hx : lt64 x) (h : rg x = 9218868437227405312) (hs : ng x = true) :
    Calls Try.prog 17 #[.float .f64 x] w fun e w' => e = .returned (.float .f64 (nextV x)) ∧ w = w' := by
  have HC := class_inf_true x w hx h hs
  have HB := bits_num x w (by omega)
  obtain ⟨s1, s2⟩ := sgn_yes hs
  have HE := Lib.hid (pred_cn hx hs (by omega) (by omega))
  have HN := Lib.hid (next_down hs (by omega) (by omega))
  clear h hs
  go_enter Try.func17, Try.ntmps17
  go_wp2_with (first | (go_at_call 12; refine (HC).mono ?_; rintro e w' ⟨rfl, rfl⟩) | (go_at_call 14; refine (HB).mono ?_; rintro e w' ⟨rfl, rfl⟩) | (go_at_call 11; refine (from_int _ _).mono ?_; rintro e w' ⟨rfl, rfl⟩))
  go_ret
  exact ⟨congrArg (fun v => Ending.returned (Value.float .f64 v)) (HE.out.trans HN.out.symm), rfl⟩
theorem next_any (x : Nat) (w : World) (hx : lt64 x) :
    Calls Try.prog 17 #[.float .f64 x] w fun e w' => e = .returned (.float .f64 (nextV x)) ∧ w = w' := by
  rcases class_ways x with h | ⟨h0, h | h | h | h⟩
  · rw [Fl.next_nan h]; exact next_nan x w hx h
  · rw [Fl.next_zero h]
    cases hs : ng x
    · exact next_zero_false x w hx h hs
    · exact next_zero_true x w hx h hs
  · cases hs : ng x
    · exact next_sub_false x w hx h hs
    · exact next_sub_true x w hx h hs
  · cases hs : ng x
    · rw [Fl.next_inf hs h]; exact next_inf x w hx h hs
    · exact next_inf_true x w hx h hs
  · cases hs : ng x
    · exact next_num_false x w hx h hs
    · exact next_num_true x w hx h hs
theorem prev_any (x : Nat) (w : World) (hx : lt64 x) :
    Calls Try.prog 18 #[.float .f64 x] w fun e w' => e = .returned (.float .f64 (prevV x)) ∧ w = w' := by
  rcases Nat.lt_or_ge 9218868437227405312 (rg x) with h | h
  · rw [Fl.prev_nan h]
    have h1 := t_ne_nan h
    clear h
    go_enter Try.func18, Try.ntmps18
    go_wp2_with (go_at_call 11; refine (from_int _ _).mono ?_; rintro e w' ⟨rfl, rfl⟩)
    go_ret
    exact ⟨congrArg (fun v => Ending.returned (Value.float .f64 v)) cn_C0, rfl⟩
  · rw [Fl.prev_num h]
    have h1 := t_ne_num h
    have hf := flip_lt hx
    clear h
    go_enter Try.func18, Try.ntmps18
    go_wp2_with (go_at_call 17; refine (next_any _ _ hf).mono ?_; rintro e w' ⟨rfl, rfl⟩)
    go_ret
    exact ⟨rfl, rfl⟩
/-- the number whose key it is (the reference's own). -/
theorem unkey_of (n : Int) (k : Nat) (w : World) (h : n = (k : Int)) (hk : lt64 k) :
    Calls Try.prog 34 #[.int .u64 n] w fun e w' => e = .returned (.float .f64 (cn (unkeyW k))) ∧ w = w' := by
  subst h
  cases hs : ng k
  · obtain ⟨s1, s2⟩ := sgn_no hs
    have e1 : unkeyW k = notV k := by unfold unkeyW; rw [hs]; rfl
    have hl : lt64 (notV k) := by unfold notV; show _ < 18446744073709551616; have := hk.h; omega
    rw [e1]
    clear hs e1
    go_enter Try.func34, Try.ntmps34
    go_wp2_with (go_at_call 27; refine (rfrom_any _ _ hl).mono ?_; rintro e w' ⟨rfl, rfl⟩)
    go_ret
    exact ⟨rfl, rfl⟩
  · obtain ⟨s1, s2⟩ := sgn_yes hs
    have e1 : unkeyW k = flipV k := by unfold unkeyW; rw [hs]; rfl
    have hl := flip_lt hk
    rw [e1]
    clear hs e1
    go_enter Try.func34, Try.ntmps34
    go_wp2_with (go_at_call 27; refine (rfrom_any _ _ hl).mono ?_; rintro e w' ⟨rfl, rfl⟩)
    go_ret
    exact ⟨rfl, rfl⟩
set_option maxHeartbeats 400000 in
theorem rnext_nan (x : Nat) (w : World) (hx : lt64 x) (h : 9218868437227405312 < rg x) :
    Calls Try.prog 23 #[.float .f64 x] w fun e w' => e = .returned (.float .f64 (nextV x)) ∧ w = w' := by
  have HC := rclass_nan x w hx h
  have HU := Lib.hid (show cn (unkeyW (keyV x)) = nextV x by unfold keyV; rw [unkey_key (lt64_cn hx), cn_cn]; exact by rw [cn_nan h, Fl.next_nan h])
  have HL : lt64 (keyV x) := keyW_lt (lt64_cn hx)
  clear h
  go_enter Try.func23, Try.ntmps23
  go_wp2_with (first | (go_at_call 19; refine (HC).mono ?_; rintro e w' ⟨rfl, rfl⟩) | (go_at_call 21; refine (rkey_any _ _ hx).mono ?_; rintro e w' ⟨rfl, rfl⟩) | (go_at_call 34; refine (unkey_of _ (keyV x) _ rfl HL).mono ?_; rintro e w' ⟨rfl, rfl⟩) | (go_at_call 27; refine (rfrom_any 1 _ (by omega)).mono ?_; rintro e w' ⟨rfl, rfl⟩) | (go_at_call 27; refine (rfrom_any 9223372036854775809 _ (by omega)).mono ?_; rintro e w' ⟨rfl, rfl⟩))
  go_ret
  exact ⟨congrArg (fun v => Ending.returned (Value.float .f64 v)) HU.out, rfl⟩
set_option maxHeartbeats 400000 in
theorem rnext_zero_true (x : Nat) (w : World) (hx : lt64 x) (h : rg x = 0) (hs : ng x = true) :
    Calls Try.prog 23 #[.float .f64 x] w fun e w' => e = .returned (.float .f64 (nextV x)) ∧ w = w' := by
  have HC := rclass_zero_true x w hx h hs
  have HU := Lib.hid (Fl.next_zero h)
  clear h hs
  go_enter Try.func23, Try.ntmps23
  go_wp2_with (first | (go_at_call 19; refine (HC).mono ?_; rintro e w' ⟨rfl, rfl⟩) | (go_at_call 21; refine (rkey_any _ _ hx).mono ?_; rintro e w' ⟨rfl, rfl⟩) | (go_at_call 34; refine (unkey_of _ (keyV x) _ rfl (keyW_lt (lt64_cn hx))).mono ?_; rintro e w' ⟨rfl, rfl⟩) | (go_at_call 27; refine (rfrom_any 1 _ (by omega)).mono ?_; rintro e w' ⟨rfl, rfl⟩) | (go_at_call 27; refine (rfrom_any 9223372036854775809 _ (by omega)).mono ?_; rintro e w' ⟨rfl, rfl⟩))
  go_ret
  exact ⟨congrArg (fun v => Ending.returned (Value.float .f64 v)) (Eq.trans (by decide) HU.out.symm), rfl⟩
set_option maxHeartbeats 400000 in
theorem rnext_zero_false (x : Nat) (w : World) (hx : lt64 x) (h : rg x = 0) (hs : ng x = false) :
    Calls Try.prog 23 #[.float .f64 x] w fun e w' => e = .returned (.float .f64 (nextV x)) ∧ w = w' := by
  have HC := rclass_zero_false x w hx h hs
  have hn : rg x ≤ 9218868437227405312 := by omega
  have hk : keyV x = keyW x := by unfold keyV; rw [cn_num hn]
  have hv := keyW_val hx
  have HU := Lib.hid (show cn (unkeyW (keyV x + 1)) = nextV x by rw [hk, unkey_succ_up hx hs (by omega)]; exact next_cn hx)
  have HL : lt64 (keyV x + 1) ∧ IntKind.u64.wrap ((keyV x : Int) + 1) = ((keyV x + 1 : Nat) : Int) := by
    rw [hk, IntKind.wrap_u64, hv, hs]
    unfold lt64
    simp only [if_true, if_false, Bool.false_eq_true]
    omega
  have HM := Lib.hid HL.2
  have HL' := HL.1
  clear hk hv HL hn
  clear h hs
  go_enter Try.func23, Try.ntmps23
  go_wp2_with (first | (go_at_call 19; refine (HC).mono ?_; rintro e w' ⟨rfl, rfl⟩) | (go_at_call 21; refine (rkey_any _ _ hx).mono ?_; rintro e w' ⟨rfl, rfl⟩) | (go_at_call 34; refine (unkey_of _ (keyV x + 1) _ HM.out HL').mono ?_; rintro e w' ⟨rfl, rfl⟩) | (go_at_call 27; refine (rfrom_any 1 _ (by omega)).mono ?_; rintro e w' ⟨rfl, rfl⟩) | (go_at_call 27; refine (rfrom_any 9223372036854775809 _ (by omega)).mono ?_; rintro e w' ⟨rfl, rfl⟩))
  go_ret
  exact ⟨congrArg (fun v => Ending.returned (Value.float .f64 v)) HU.out, rfl⟩
set_option maxHeartbeats 400000 in
theorem rnext_sub_true (x : Nat) (w : World) (hx : lt64 x) (h : 0 < rg x ∧ rg x < 4503599627370496) (hs : ng x = true) :
    Calls Try.prog 23 #[.float .f64 x] w fun e w' => e = .returned (.float .f64 (nextV x)) ∧ w = w' := by
  have HC := rclass_sub_true x w hx h hs
  have hn : rg x ≤ 9218868437227405312 := by omega
  have hk : keyV x = keyW x := by unfold keyV; rw [cn_num hn]
  have hv := keyW_val hx
  have HU := Lib.hid (show cn (unkeyW (keyV x + 1)) = nextV x by rw [hk, unkey_succ_down hx hs (by omega) (by omega)]; exact next_cn hx)
  have HL : lt64 (keyV x + 1) ∧ IntKind.u64.wrap ((keyV x : Int) + 1) = ((keyV x + 1 : Nat) : Int) := by
    rw [hk, IntKind.wrap_u64, hv, hs]
    unfold lt64
    simp only [if_true, if_false, Bool.false_eq_true]
    omega
  have HM := Lib.hid HL.2
  have HL' := HL.1
  clear hk hv HL hn
  clear h hs
  go_enter Try.func23, Try.ntmps23
  go_wp2_with (first | (go_at_call 19; refine (HC).mono ?_; rintro e w' ⟨rfl, rfl⟩) | (go_at_call 21; refine (rkey_any _ _ hx).mono ?_; rintro e w' ⟨rfl, rfl⟩) | (go_at_call 34; refine (unkey_of _ (keyV x + 1) _ HM.out HL').mono ?_; rintro e w' ⟨rfl, rfl⟩) | (go_at_call 27; refine (rfrom_any 1 _ (by omega)).mono ?_; rintro e w' ⟨rfl, rfl⟩) | (go_at_call 27; refine (rfrom_any 9223372036854775809 _ (by omega)).mono ?_; rintro e w' ⟨rfl, rfl⟩))
  go_ret
  exact ⟨congrArg (fun v => Ending.returned (Value.float .f64 v)) HU.out, rfl⟩
set_option maxHeartbeats 400000 in
theorem rnext_sub_false (x : Nat) (w : World) (hx : lt64 x) (h : 0 < rg x ∧ rg x < 4503599627370496) (hs : ng x = false) :
    Calls Try.prog 23 #[.float .f64 x] w fun e w' => e = .returned (.float .f64 (nextV x)) ∧ w = w' := by
  have HC := rclass_sub_false x w hx h hs
  have hn : rg x ≤ 9218868437227405312 := by omega
  have hk : keyV x = keyW x := by unfold keyV; rw [cn_num hn]
  have hv := keyW_val hx
  have HU := Lib.hid (show cn (unkeyW (keyV x + 1)) = nextV x by rw [hk, unkey_succ_up hx hs (by omega)]; exact next_cn hx)
  have HL : lt64 (keyV x + 1) ∧ IntKind.u64.wrap ((keyV x : Int) + 1) = ((keyV x + 1 : Nat) : Int) := by
    rw [hk, IntKind.wrap_u64, hv, hs]
    unfold lt64
    simp only [if_true, if_false, Bool.false_eq_true]
    omega
  have HM := Lib.hid HL.2
  have HL' := HL.1
  clear hk hv HL hn
  clear h hs
  go_enter Try.func23, Try.ntmps23
  go_wp2_with (first | (go_at_call 19; refine (HC).mono ?_; rintro e w' ⟨rfl, rfl⟩) | (go_at_call 21; refine (rkey_any _ _ hx).mono ?_; rintro e w' ⟨rfl, rfl⟩) | (go_at_call 34; refine (unkey_of _ (keyV x + 1) _ HM.out HL').mono ?_; rintro e w' ⟨rfl, rfl⟩) | (go_at_call 27; refine (rfrom_any 1 _ (by omega)).mono ?_; rintro e w' ⟨rfl, rfl⟩) | (go_at_call 27; refine (rfrom_any 9223372036854775809 _ (by omega)).mono ?_; rintro e w' ⟨rfl, rfl⟩))
  go_ret
  exact ⟨congrArg (fun v => Ending.returned (Value.float .f64 v)) HU.out, rfl⟩
set_option maxHeartbeats 400000 in
theorem rnext_num_true (x : Nat) (w : World) (hx : lt64 x) (h : 4503599627370496 ≤ rg x ∧ rg x < 9218868437227405312) (hs : ng x = true) :
    Calls Try.prog 23 #[.float .f64 x] w fun e w' => e = .returned (.float .f64 (nextV x)) ∧ w = w' := by
  have HC := rclass_num_true x w hx h hs
  have hn : rg x ≤ 9218868437227405312 := by omega
  have hk : keyV x = keyW x := by unfold keyV; rw [cn_num hn]
  have hv := keyW_val hx
  have HU := Lib.hid (show cn (unkeyW (keyV x + 1)) = nextV x by rw [hk, unkey_succ_down hx hs (by omega) (by omega)]; exact next_cn hx)
  have HL : lt64 (keyV x + 1) ∧ IntKind.u64.wrap ((keyV x : Int) + 1) = ((keyV x + 1 : Nat) : Int) := by
    rw [hk, IntKind.wrap_u64, hv, hs]
    unfold lt64
    simp only [if_true, if_false, Bool.false_eq_true]
    omega
  have HM := Lib.hid HL.2
  have HL' := HL.1
  clear hk hv HL hn
  clear h hs
  go_enter Try.func23, Try.ntmps23
  go_wp2_with (first | (go_at_call 19; refine (HC).mono ?_; rintro e w' ⟨rfl, rfl⟩) | (go_at_call 21; refine (rkey_any _ _ hx).mono ?_; rintro e w' ⟨rfl, rfl⟩) | (go_at_call 34; refine (unkey_of _ (keyV x + 1) _ HM.out HL').mono ?_; rintro e w' ⟨rfl, rfl⟩) | (go_at_call 27; refine (rfrom_any 1 _ (by omega)).mono ?_; rintro e w' ⟨rfl, rfl⟩) | (go_at_call 27; refine (rfrom_any 9223372036854775809 _ (by omega)).mono ?_; rintro e w' ⟨rfl, rfl⟩))
  go_ret
  exact ⟨congrArg (fun v => Ending.returned (Value.float .f64 v)) HU.out, rfl⟩
set_option maxHeartbeats 400000 in
theorem rnext_num_false (x : Nat) (w : World) (hx : lt64 x) (h : 4503599627370496 ≤ rg x ∧ rg x < 9218868437227405312) (hs : ng x = false) :
    Calls Try.prog 23 #[.float .f64 x] w fun e w' => e = .returned (.float .f64 (nextV x)) ∧ w = w' := by
  have HC := rclass_num_false x w hx h hs
  have hn : rg x ≤ 9218868437227405312 := by omega
  have hk : keyV x = keyW x := by unfold keyV; rw [cn_num hn]
  have hv := keyW_val hx
  have HU := Lib.hid (show cn (unkeyW (keyV x + 1)) = nextV x by rw [hk, unkey_succ_up hx hs (by omega)]; exact next_cn hx)
  have HL : lt64 (keyV x + 1) ∧ IntKind.u64.wrap ((keyV x : Int) + 1) = ((keyV x + 1 : Nat) : Int) := by
    rw [hk, IntKind.wrap_u64, hv, hs]
    unfold lt64
    simp only [if_true, if_false, Bool.false_eq_true]
    omega
  have HM := Lib.hid HL.2
  have HL' := HL.1
  clear hk hv HL hn
  clear h hs
  go_enter Try.func23, Try.ntmps23
  go_wp2_with (first | (go_at_call 19; refine (HC).mono ?_; rintro e w' ⟨rfl, rfl⟩) | (go_at_call 21; refine (rkey_any _ _ hx).mono ?_; rintro e w' ⟨rfl, rfl⟩) | (go_at_call 34; refine (unkey_of _ (keyV x + 1) _ HM.out HL').mono ?_; rintro e w' ⟨rfl, rfl⟩) | (go_at_call 27; refine (rfrom_any 1 _ (by omega)).mono ?_; rintro e w' ⟨rfl, rfl⟩) | (go_at_call 27; refine (rfrom_any 9223372036854775809 _ (by omega)).mono ?_; rintro e w' ⟨rfl, rfl⟩))
  go_ret
  exact ⟨congrArg (fun v => Ending.returned (Value.float .f64 v)) HU.out, rfl⟩
set_option maxHeartbeats 400000 in
theorem rnext_inf_true (x : Nat) (w : World) (hx : lt64 x) (h : rg x = 9218868437227405312) (hs : ng x = true) :
    Calls Try.prog 23 #[.float .f64 x] w fun e w' => e = .returned (.float .f64 (nextV x)) ∧ w = w' := by
  have HC := rclass_inf_true x w hx h hs
  have hn : rg x ≤ 9218868437227405312 := by omega
  have hk : keyV x = keyW x := by unfold keyV; rw [cn_num hn]
  have hv := keyW_val hx
  have HU := Lib.hid (show cn (unkeyW (keyV x + 1)) = nextV x by rw [hk, unkey_succ_down hx hs (by omega) (by omega)]; exact next_cn hx)
  have HL : lt64 (keyV x + 1) ∧ IntKind.u64.wrap ((keyV x : Int) + 1) = ((keyV x + 1 : Nat) : Int) := by
    rw [hk, IntKind.wrap_u64, hv, hs]
    unfold lt64
    simp only [if_true, if_false, Bool.false_eq_true]
    omega
  have HM := Lib.hid HL.2
  have HL' := HL.1
  clear hk hv HL hn
  clear h hs
  go_enter Try.func23, Try.ntmps23
  go_wp2_with (first | (go_at_call 19; refine (HC).mono ?_; rintro e w' ⟨rfl, rfl⟩) | (go_at_call 21; refine (rkey_any _ _ hx).mono ?_; rintro e w' ⟨rfl, rfl⟩) | (go_at_call 34; refine (unkey_of _ (keyV x + 1) _ HM.out HL').mono ?_; rintro e w' ⟨rfl, rfl⟩) | (go_at_call 27; refine (rfrom_any 1 _ (by omega)).mono ?_; rintro e w' ⟨rfl, rfl⟩) | (go_at_call 27; refine (rfrom_any 9223372036854775809 _ (by omega)).mono ?_; rintro e w' ⟨rfl, rfl⟩))
  go_ret
  exact ⟨congrArg (fun v => Ending.returned (Value.float .f64 v)) HU.out, rfl⟩
set_option maxHeartbeats 400000 in
theorem rnext_inf_false (x : Nat) (w : World) (hx : lt64 x) (h : rg x = 9218868437227405312) (hs : ng x = false) :
    Calls Try.prog 23 #[.float .f64 x] w fun e w' => e = .returned (.float .f64 (nextV x)) ∧ w = w' := by
  have HC := rclass_inf_false x w hx h hs
  have HU := Lib.hid (show cn (unkeyW (keyV x)) = nextV x by unfold keyV; rw [unkey_key (lt64_cn hx), cn_cn]; exact by rw [cn_num (by omega), Fl.next_inf hs h])
  have HL : lt64 (keyV x) := keyW_lt (lt64_cn hx)
  clear h hs
  go_enter Try.func23, Try.ntmps23
  go_wp2_with (first | (go_at_call 19; refine (HC).mono ?_; rintro e w' ⟨rfl, rfl⟩) | (go_at_call 21; refine (rkey_any _ _ hx).mono ?_; rintro e w' ⟨rfl, rfl⟩) | (go_at_call 34; refine (unkey_of _ (keyV x) _ rfl HL).mono ?_; rintro e w' ⟨rfl, rfl⟩) | (go_at_call 27; refine (rfrom_any 1 _ (by omega)).mono ?_; rintro e w' ⟨rfl, rfl⟩) | (go_at_call 27; refine (rfrom_any 9223372036854775809 _ (by omega)).mono ?_; rintro e w' ⟨rfl, rfl⟩))
  go_ret
  exact ⟨congrArg (fun v => Ending.returned (Value.float .f64 v)) HU.out, rfl⟩
theorem rnext_any (x : Nat) (w : World) (hx : lt64 x) :
    Calls Try.prog 23 #[.float .f64 x] w fun e w' => e = .returned (.float .f64 (nextV x)) ∧ w = w' := by
  rcases class_ways x with h | ⟨h0, h | h | h | h⟩
  · exact rnext_nan x w hx h
  · cases hs : ng x
    · exact rnext_zero_false x w hx h hs
    · exact rnext_zero_true x w hx h hs
  · cases hs : ng x
    · exact rnext_sub_false x w hx h hs
    · exact rnext_sub_true x w hx h hs
  · cases hs : ng x
    · exact rnext_inf_false x w hx h hs
    · exact rnext_inf_true x w hx h hs
  · cases hs : ng x
    · exact rnext_num_false x w hx h hs
    · exact rnext_num_true x w hx h hs
set_option maxHeartbeats 400000 in
theorem rprev_nan (x : Nat) (w : World) (hx : lt64 x) (h : 9218868437227405312 < rg x) :
    Calls Try.prog 24 #[.float .f64 x] w fun e w' => e = .returned (.float .f64 (prevV x)) ∧ w = w' := by
  have HC := rclass_nan x w hx h
  have HU := Lib.hid (show cn (unkeyW (keyV x)) = prevV x by unfold keyV; rw [unkey_key (lt64_cn hx), cn_cn]; exact by rw [cn_nan h, Fl.prev_nan h])
  have HL : lt64 (keyV x) := keyW_lt (lt64_cn hx)
  clear h
  go_enter Try.func24, Try.ntmps24
  go_wp2_with (first | (go_at_call 19; refine (HC).mono ?_; rintro e w' ⟨rfl, rfl⟩) | (go_at_call 21; refine (rkey_any _ _ hx).mono ?_; rintro e w' ⟨rfl, rfl⟩) | (go_at_call 34; refine (unkey_of _ (keyV x) _ rfl HL).mono ?_; rintro e w' ⟨rfl, rfl⟩) | (go_at_call 27; refine (rfrom_any 1 _ (by omega)).mono ?_; rintro e w' ⟨rfl, rfl⟩) | (go_at_call 27; refine (rfrom_any 9223372036854775809 _ (by omega)).mono ?_; rintro e w' ⟨rfl, rfl⟩))
  go_ret
  exact ⟨congrArg (fun v => Ending.returned (Value.float .f64 v)) HU.out, rfl⟩
set_option maxHeartbeats 400000 in
theorem rprev_zero_true (x : Nat) (w : World) (hx : lt64 x) (h : rg x = 0) (hs : ng x = true) :
    Calls Try.prog 24 #[.float .f64 x] w fun e w' => e = .returned (.float .f64 (prevV x)) ∧ w = w' := by
  have HC := rclass_zero_true x w hx h hs
  have hn : rg x ≤ 9218868437227405312 := by omega
  have hk : keyV x = keyW x := by unfold keyV; rw [cn_num hn]
  have hv := keyW_val hx
  have HU := Lib.hid (show cn (unkeyW (keyV x - 1)) = prevV x by rw [hk, unkey_pred_down hx hs (by omega)]; exact prev_cn hx)
  have HL : lt64 (keyV x - 1) ∧ IntKind.u64.wrap ((keyV x : Int) - 1) = ((keyV x - 1 : Nat) : Int) := by
    rw [hk, IntKind.wrap_u64, hv, hs]
    unfold lt64
    simp only [if_true, if_false, Bool.false_eq_true]
    omega
  have HM := Lib.hid HL.2
  have HL' := HL.1
  clear hk hv HL hn
  clear h hs
  go_enter Try.func24, Try.ntmps24
  go_wp2_with (first | (go_at_call 19; refine (HC).mono ?_; rintro e w' ⟨rfl, rfl⟩) | (go_at_call 21; refine (rkey_any _ _ hx).mono ?_; rintro e w' ⟨rfl, rfl⟩) | (go_at_call 34; refine (unkey_of _ (keyV x - 1) _ HM.out HL').mono ?_; rintro e w' ⟨rfl, rfl⟩) | (go_at_call 27; refine (rfrom_any 1 _ (by omega)).mono ?_; rintro e w' ⟨rfl, rfl⟩) | (go_at_call 27; refine (rfrom_any 9223372036854775809 _ (by omega)).mono ?_; rintro e w' ⟨rfl, rfl⟩))
  go_ret
  exact ⟨congrArg (fun v => Ending.returned (Value.float .f64 v)) HU.out, rfl⟩
set_option maxHeartbeats 400000 in
theorem rprev_zero_false (x : Nat) (w : World) (hx : lt64 x) (h : rg x = 0) (hs : ng x = false) :
    Calls Try.prog 24 #[.float .f64 x] w fun e w' => e = .returned (.float .f64 (prevV x)) ∧ w = w' := by
  have HC := rclass_zero_false x w hx h hs
  have HU := Lib.hid (Fl.prev_zero h)
  clear h hs
  go_enter Try.func24, Try.ntmps24
  go_wp2_with (first | (go_at_call 19; refine (HC).mono ?_; rintro e w' ⟨rfl, rfl⟩) | (go_at_call 21; refine (rkey_any _ _ hx).mono ?_; rintro e w' ⟨rfl, rfl⟩) | (go_at_call 34; refine (unkey_of _ (keyV x) _ rfl (keyW_lt (lt64_cn hx))).mono ?_; rintro e w' ⟨rfl, rfl⟩) | (go_at_call 27; refine (rfrom_any 1 _ (by omega)).mono ?_; rintro e w' ⟨rfl, rfl⟩) | (go_at_call 27; refine (rfrom_any 9223372036854775809 _ (by omega)).mono ?_; rintro e w' ⟨rfl, rfl⟩))
  go_ret
  exact ⟨congrArg (fun v => Ending.returned (Value.float .f64 v)) (Eq.trans (by decide) HU.out.symm), rfl⟩
set_option maxHeartbeats 400000 in
theorem rprev_sub_true (x : Nat) (w : World) (hx : lt64 x) (h : 0 < rg x ∧ rg x < 4503599627370496) (hs : ng x = true) :
    Calls Try.prog 24 #[.float .f64 x] w fun e w' => e = .returned (.float .f64 (prevV x)) ∧ w = w' := by
  have HC := rclass_sub_true x w hx h hs
  have hn : rg x ≤ 9218868437227405312 := by omega
  have hk : keyV x = keyW x := by unfold keyV; rw [cn_num hn]
  have hv := keyW_val hx
  have HU := Lib.hid (show cn (unkeyW (keyV x - 1)) = prevV x by rw [hk, unkey_pred_down hx hs (by omega)]; exact prev_cn hx)
  have HL : lt64 (keyV x - 1) ∧ IntKind.u64.wrap ((keyV x : Int) - 1) = ((keyV x - 1 : Nat) : Int) := by
    rw [hk, IntKind.wrap_u64, hv, hs]
    unfold lt64
    simp only [if_true, if_false, Bool.false_eq_true]
    omega
  have HM := Lib.hid HL.2
  have HL' := HL.1
  clear hk hv HL hn
  clear h hs
  go_enter Try.func24, Try.ntmps24
  go_wp2_with (first | (go_at_call 19; refine (HC).mono ?_; rintro e w' ⟨rfl, rfl⟩) | (go_at_call 21; refine (rkey_any _ _ hx).mono ?_; rintro e w' ⟨rfl, rfl⟩) | (go_at_call 34; refine (unkey_of _ (keyV x - 1) _ HM.out HL').mono ?_; rintro e w' ⟨rfl, rfl⟩) | (go_at_call 27; refine (rfrom_any 1 _ (by omega)).mono ?_; rintro e w' ⟨rfl, rfl⟩) | (go_at_call 27; refine (rfrom_any 9223372036854775809 _ (by omega)).mono ?_; rintro e w' ⟨rfl, rfl⟩))
  go_ret
  exact ⟨congrArg (fun v => Ending.returned (Value.float .f64 v)) HU.out, rfl⟩
set_option maxHeartbeats 400000 in
theorem rprev_sub_false (x : Nat) (w : World) (hx : lt64 x) (h : 0 < rg x ∧ rg x < 4503599627370496) (hs : ng x = false) :
    Calls Try.prog 24 #[.float .f64 x] w fun e w' => e = .returned (.float .f64 (prevV x)) ∧ w = w' := by
  have HC := rclass_sub_false x w hx h hs
  have hn : rg x ≤ 9218868437227405312 := by omega
  have hk : keyV x = keyW x := by unfold keyV; rw [cn_num hn]
  have hv := keyW_val hx
  have HU := Lib.hid (show cn (unkeyW (keyV x - 1)) = prevV x by rw [hk, unkey_pred_up hx hs (by omega) (by omega)]; exact prev_cn hx)
  have HL : lt64 (keyV x - 1) ∧ IntKind.u64.wrap ((keyV x : Int) - 1) = ((keyV x - 1 : Nat) : Int) := by
    rw [hk, IntKind.wrap_u64, hv, hs]
    unfold lt64
    simp only [if_true, if_false, Bool.false_eq_true]
    omega
  have HM := Lib.hid HL.2
  have HL' := HL.1
  clear hk hv HL hn
  clear h hs
  go_enter Try.func24, Try.ntmps24
  go_wp2_with (first | (go_at_call 19; refine (HC).mono ?_; rintro e w' ⟨rfl, rfl⟩) | (go_at_call 21; refine (rkey_any _ _ hx).mono ?_; rintro e w' ⟨rfl, rfl⟩) | (go_at_call 34; refine (unkey_of _ (keyV x - 1) _ HM.out HL').mono ?_; rintro e w' ⟨rfl, rfl⟩) | (go_at_call 27; refine (rfrom_any 1 _ (by omega)).mono ?_; rintro e w' ⟨rfl, rfl⟩) | (go_at_call 27; refine (rfrom_any 9223372036854775809 _ (by omega)).mono ?_; rintro e w' ⟨rfl, rfl⟩))
  go_ret
  exact ⟨congrArg (fun v => Ending.returned (Value.float .f64 v)) HU.out, rfl⟩
set_option maxHeartbeats 400000 in
theorem rprev_num_true (x : Nat) (w : World) (hx : lt64 x) (h : 4503599627370496 ≤ rg x ∧ rg x < 9218868437227405312) (hs : ng x = true) :
    Calls Try.prog 24 #[.float .f64 x] w fun e w' => e = .returned (.float .f64 (prevV x)) ∧ w = w' := by
  have HC := rclass_num_true x w hx h hs
  have hn : rg x ≤ 9218868437227405312 := by omega
  have hk : keyV x = keyW x := by unfold keyV; rw [cn_num hn]
  have hv := keyW_val hx
  have HU := Lib.hid (show cn (unkeyW (keyV x - 1)) = prevV x by rw [hk, unkey_pred_down hx hs (by omega)]; exact prev_cn hx)
  have HL : lt64 (keyV x - 1) ∧ IntKind.u64.wrap ((keyV x : Int) - 1) = ((keyV x - 1 : Nat) : Int) := by
    rw [hk, IntKind.wrap_u64, hv, hs]
    unfold lt64
    simp only [if_true, if_false, Bool.false_eq_true]
    omega
  have HM := Lib.hid HL.2
  have HL' := HL.1
  clear hk hv HL hn
  clear h hs
  go_enter Try.func24, Try.ntmps24
  go_wp2_with (first | (go_at_call 19; refine (HC).mono ?_; rintro e w' ⟨rfl, rfl⟩) | (go_at_call 21; refine (rkey_any _ _ hx).mono ?_; rintro e w' ⟨rfl, rfl⟩) | (go_at_call 34; refine (unkey_of _ (keyV x - 1) _ HM.out HL').mono ?_; rintro e w' ⟨rfl, rfl⟩) | (go_at_call 27; refine (rfrom_any 1 _ (by omega)).mono ?_; rintro e w' ⟨rfl, rfl⟩) | (go_at_call 27; refine (rfrom_any 9223372036854775809 _ (by omega)).mono ?_; rintro e w' ⟨rfl, rfl⟩))
  go_ret
  exact ⟨congrArg (fun v => Ending.returned (Value.float .f64 v)) HU.out, rfl⟩
set_option maxHeartbeats 400000 in
theorem rprev_num_false (x : Nat) (w : World) (hx : lt64 x) (h : 4503599627370496 ≤ rg x ∧ rg x < 9218868437227405312) (hs : ng x = false) :
    Calls Try.prog 24 #[.float .f64 x] w fun e w' => e = .returned (.float .f64 (prevV x)) ∧ w = w' := by
  have HC := rclass_num_false x w hx h hs
  have hn : rg x ≤ 9218868437227405312 := by omega
  have hk : keyV x = keyW x := by unfold keyV; rw [cn_num hn]
  have hv := keyW_val hx
  have HU := Lib.hid (show cn (unkeyW (keyV x - 1)) = prevV x by rw [hk, unkey_pred_up hx hs (by omega) (by omega)]; exact prev_cn hx)
  have HL : lt64 (keyV x - 1) ∧ IntKind.u64.wrap ((keyV x : Int) - 1) = ((keyV x - 1 : Nat) : Int) := by
    rw [hk, IntKind.wrap_u64, hv, hs]
    unfold lt64
    simp only [if_true, if_false, Bool.false_eq_true]
    omega
  have HM := Lib.hid HL.2
  have HL' := HL.1
  clear hk hv HL hn
  clear h hs
  go_enter Try.func24, Try.ntmps24
  go_wp2_with (first | (go_at_call 19; refine (HC).mono ?_; rintro e w' ⟨rfl, rfl⟩) | (go_at_call 21; refine (rkey_any _ _ hx).mono ?_; rintro e w' ⟨rfl, rfl⟩) | (go_at_call 34; refine (unkey_of _ (keyV x - 1) _ HM.out HL').mono ?_; rintro e w' ⟨rfl, rfl⟩) | (go_at_call 27; refine (rfrom_any 1 _ (by omega)).mono ?_; rintro e w' ⟨rfl, rfl⟩) | (go_at_call 27; refine (rfrom_any 9223372036854775809 _ (by omega)).mono ?_; rintro e w' ⟨rfl, rfl⟩))
  go_ret
  exact ⟨congrArg (fun v => Ending.returned (Value.float .f64 v)) HU.out, rfl⟩
set_option maxHeartbeats 400000 in
theorem rprev_inf_true (x : Nat) (w : World) (hx : lt64 x) (h : rg x = 9218868437227405312) (hs : ng x = true) :
    Calls Try.prog 24 #[.float .f64 x] w fun e w' => e = .returned (.float .f64 (prevV x)) ∧ w = w' := by
  have HC := rclass_inf_true x w hx h hs
  have HU := Lib.hid (show cn (unkeyW (keyV x)) = prevV x by unfold keyV; rw [unkey_key (lt64_cn hx), cn_cn]; exact by rw [cn_num (by omega), Fl.prev_inf hx hs h])
  have HL : lt64 (keyV x) := keyW_lt (lt64_cn hx)
  clear h hs
  go_enter Try.func24, Try.ntmps24
  go_wp2_with (first | (go_at_call 19; refine (HC).mono ?_; rintro e w' ⟨rfl, rfl⟩) | (go_at_call 21; refine (rkey_any _ _ hx).mono ?_; rintro e w' ⟨rfl, rfl⟩) | (go_at_call 34; refine (unkey_of _ (keyV x) _ rfl HL).mono ?_; rintro e w' ⟨rfl, rfl⟩) | (go_at_call 27; refine (rfrom_any 1 _ (by omega)).mono ?_; rintro e w' ⟨rfl, rfl⟩) | (go_at_call 27; refine (rfrom_any 9223372036854775809 _ (by omega)).mono ?_; rintro e w' ⟨rfl, rfl⟩))
  go_ret
  exact ⟨congrArg (fun v => Ending.returned (Value.float .f64 v)) HU.out, rfl⟩
set_option maxHeartbeats 400000 in
theorem rprev_inf_false (x : Nat) (w : World) (hx : lt64 x) (h : rg x = 9218868437227405312) (hs : ng x = false) :
    Calls Try.prog 24 #[.float .f64 x] w fun e w' => e = .returned (.float .f64 (prevV x)) ∧ w = w' := by
  have HC := rclass_inf_false x w hx h hs
  have hn : rg x ≤ 9218868437227405312 := by omega
  have hk : keyV x = keyW x := by unfold keyV; rw [cn_num hn]
  have hv := keyW_val hx
  have HU := Lib.hid (show cn (unkeyW (keyV x - 1)) = prevV x by rw [hk, unkey_pred_up hx hs (by omega) (by omega)]; exact prev_cn hx)
  have HL : lt64 (keyV x - 1) ∧ IntKind.u64.wrap ((keyV x : Int) - 1) = ((keyV x - 1 : Nat) : Int) := by
    rw [hk, IntKind.wrap_u64, hv, hs]
    unfold lt64
    simp only [if_true, if_false, Bool.false_eq_true]
    omega
  have HM := Lib.hid HL.2
  have HL' := HL.1
  clear hk hv HL hn
  clear h hs
  go_enter Try.func24, Try.ntmps24
  go_wp2_with (first | (go_at_call 19; refine (HC).mono ?_; rintro e w' ⟨rfl, rfl⟩) | (go_at_call 21; refine (rkey_any _ _ hx).mono ?_; rintro e w' ⟨rfl, rfl⟩) | (go_at_call 34; refine (unkey_of _ (keyV x - 1) _ HM.out HL').mono ?_; rintro e w' ⟨rfl, rfl⟩) | (go_at_call 27; refine (rfrom_any 1 _ (by omega)).mono ?_; rintro e w' ⟨rfl, rfl⟩) | (go_at_call 27; refine (rfrom_any 9223372036854775809 _ (by omega)).mono ?_; rintro e w' ⟨rfl, rfl⟩))
  go_ret
  exact ⟨congrArg (fun v => Ending.returned (Value.float .f64 v)) HU.out, rfl⟩
theorem rprev_any (x : Nat) (w : World) (hx : lt64 x) :
    Calls Try.prog 24 #[.float .f64 x] w fun e w' => e = .returned (.float .f64 (prevV x)) ∧ w = w' := by
  rcases class_ways x with h | ⟨h0, h | h | h | h⟩
  · exact rprev_nan x w hx h
  · cases hs : ng x
    · exact rprev_zero_false x w hx h hs
    · exact rprev_zero_true x w hx h hs
  · cases hs : ng x
    · exact rprev_sub_false x w hx h hs
    · exact rprev_sub_true x w hx h hs
  · cases hs : ng x
    · exact rprev_inf_false x w hx h hs
    · exact rprev_inf_true x w hx h hs
  · cases hs : ng x
    · exact rprev_num_false x w hx h hs
    · exact rprev_num_true x w hx h hs
end Go.Proofs.Ytmnnlchnobbogaa.Fb
