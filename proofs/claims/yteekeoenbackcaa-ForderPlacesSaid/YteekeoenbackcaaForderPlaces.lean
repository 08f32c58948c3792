/- ForderPlaces: the walk. For every list and every number the law returns true, and nothing that was there is written. No condition. -/
import Derived.Test.YteekeoenbackcaaForderLine
import Derived.Test.YteekeoenbackcaaFoF
namespace Go.Proofs.Yteekeoenbackcaa.So
set_option linter.unusedSimpArgs false
set_option linter.unusedVariables false
open Go.RowKit Go.Sort Go.Lib Fl Fb
attribute [local go_sem] u64_unsigned

theorem rsort_any (A : Option Addr) (n c : Nat) (l : List Nat) (w : World) (h : IsNums w A n c l) (hn : n ≤ 1000) :
    Calls Try.prog 22 #[.slice A n c] w fun e w' => ∃ A' c' rs, e = .returned (.slice A' n c') ∧ IsNums w' A' n c' rs ∧ rs.map cn = sortV l ∧ rs.Perm l ∧ Below w.heap.size w w' := by
  rcases Nat.eq_zero_or_pos n with h0 | h0
  · subst h0
    exact (rsort_zero A 0 c l w h rfl).mono fun e w' ⟨A', c', rs, he, hI, r⟩ => ⟨A', c', rs, he, hI, r⟩
  · exact rsort_some A n c l w h h0 hn
theorem find_any (A : Option Addr) (n c x : Nat) (l : List Nat) (w : World) (h : IsNums w A n c l) (hn : n ≤ 1000) (hx : lt64 x) :
    Calls Try.prog 24 #[.slice A n c, .float .f64 x] w fun e w' => e = .returned (.tuple #[.int .i64 (findI l x), .bool (findO l x)]) ∧ ∃ q, w' = w.drewN q := by
  rcases Nat.eq_zero_or_pos n with h0 | h0
  · subst h0
    obtain rfl : l = [] := List.eq_nil_of_length_eq_zero h.len
    have hr : risB [] = true := by decide
    rw [(find_yes (x := x) hr).1, (find_yes (x := x) hr).2]
    exact (find_none A c x w).mono fun e w' ⟨he, hw⟩ => ⟨he, 0, hw.symm⟩
  · obtain ⟨ad, rfl⟩ := nums_ad h h0
    obtain ⟨m, rfl⟩ : ∃ m, n = m + 1 := ⟨n - 1, by omega⟩
    exact find_some ad m c x l w h hn hx
set_option maxHeartbeats 1000000 in
theorem places_long (A : Option Addr) (n c x : Nat) (w : World) (h1 : decide ((n : Int) ≤ 300) = false) :
    Calls Try.prog 9 #[.slice A n c, .float .f64 x] w fun e w' => e = .returned (.bool true) ∧ Below w.heap.size w w' := by
  go_enter Try.func9, Try.ntmps9
  go_wp2_with fail
  refine (small_any _ _ _ _).mono ?_
  rintro e w' ⟨rfl, rfl⟩
  go_wp2_with fail
  refine (awake_any _).mono ?_
  rintro e wz ⟨rfl, hbz⟩
  go_wp2_with fail
  go_ret
  exact ⟨rfl, hbz⟩
set_option maxRecDepth 100000 in
set_option maxHeartbeats 8000000 in
theorem places_x (A : Option Addr) (n c x : Nat) (l : List Nat) (w : World) (hA : IsNums w A n c l) (hx : lt64 x) (hn : n ≤ 300) :
    Calls Try.prog 9 #[.slice A n c, .float .f64 x] w fun e w' => e = .returned (.bool true) ∧ Below w.heap.size w w' := by
  have u1 : decide (((n : Nat) : Int) ≤ 300) = true := decide_eq_true (by omega)
  go_enter Try.func9, Try.ntmps9
  go_wp2_with fail
  refine (small_any _ _ _ _).mono ?_
  rintro e w' ⟨rfl, rfl⟩
  go_wp2_with fail
  refine (rsort_any _ _ _ _ _ hA (by omega)).mono ?_
  rintro e w1 ⟨A2, c2, rs, rfl, hR, hcn, hpm, hb1⟩
  have B1 := hb1
  have hA_1 := hA.next hb1
  clear hA
  clear hb1
  go_wp2_with fail
  refine (find_any _ _ _ x _ _ hR (by omega) hx).mono ?_
  rintro e w2 ⟨rfl, q2, hq2⟩
  have hb2 : Go.RowKit.Below (w1).heap.size w1 w2 := hq2 ▸ below_drawn _ q2
  clear hq2
  have B2 := B1.trans (hb2.mono B1.size)
  have hA_2 := hA_1.next hb2
  clear hA_1
  have hR_2 := hR.next hb2
  clear hR
  clear hb2
  have hris := ris_sorted hcn
  rw [(find_yes (x := x) hris).1, (find_yes (x := x) hris).2]
  have hlr : rs.length = n := hR_2.len
  have hlow := low_le rs x
  rw [hlr] at hlow
  have hsp : ∀ i, i < rs.length → (i < lowB rs x ↔ ky rs i < keyV x) := fun i hi => low_spec hris hi
  have hmet := met_spec hA_2.wf hx hris hpm
  obtain ⟨q, hq⟩ : ∃ q, lowB rs x = q := ⟨_, rfl⟩
  rw [hq] at hlow hsp ⊢
  obtain ⟨ok, hok⟩ : ∃ ok, metB rs x = ok := ⟨_, rfl⟩
  rw [hok] at hmet ⊢
  have HSP := Lib.hid hsp
  have HMET := Lib.hid hmet
  have q0 : (0 : Int) ≤ (q : Int) := by omega
  have q2 : (q : Int) ≤ (n : Int) := by omega
  have HLR := Lib.hid hlr
  clear hq hok hsp hmet hcn hpm hris hlr
  have d1 : decide ((q : Int) < 0) = false := decide_eq_false (by omega)
  have d2 : decide (n < q) = false := decide_eq_false (by omega)
  have d3 : decide ((n : Int) < (q : Int)) = false := decide_eq_false (by omega)
  go_wp2_with fail
  go_loopw [8] (fun v wr => ∃ (i m : Nat), i ≤ n ∧ v = .int .i64 i ∧ wr = w2.drewN m) (fun v _ => n - (intOf v).toNat)
  case atStart => exact ⟨0, 0, Nat.zero_le _, rfl, rfl⟩
  case round =>
    obtain ⟨i, m, hi, rfl, rfl⟩ := hrel
    by_cases hlt : i < n
    · obtain ⟨ad, rfl⟩ := nums_ad hR_2 (by omega)
      have cc := nums_cell hR_2 hlt
      have hy0 := getD_lt hR_2.wf i
      obtain ⟨y, hy⟩ : ∃ y, rs.getD i 0 = y := ⟨_, rfl⟩
      rw [hy] at cc hy0
      have HY := Lib.hid (show i < q ↔ keyV y < keyV x by have := HSP.out i (by have := HLR.out; omega); unfold ky at this; rw [hy] at this; exact this)
      clear hy
      by_cases hq : i < q
      · have t0 : decide (i < q) = true := decide_eq_true hq
        have t1 : decide ((i : Int) < (q : Int)) = true := decide_eq_true (by omega)
        have t2 : decide (cmpN (keyV y) (keyV x) < 0) = true := decide_eq_true ((cmpN_neg _ _).2 (HY.out.1 hq))
        clear hq
        go_wp2_with (go_at_call 21; refine (rcmp_any _ _ _ hy0 hx).mono ?_; rintro e w' ⟨rfl, rfl⟩)
        go_roundw
        case rel => exact ⟨i + 1, _, by omega, by go_num, rfl⟩
        case measure => simp [intOf]; omega
      · have t0 : decide (i < q) = false := decide_eq_false hq
        have t1 : decide ((i : Int) < (q : Int)) = false := decide_eq_false (by omega)
        have t2 : decide (cmpN (keyV y) (keyV x) < 0) = false := decide_eq_false (fun hh => hq (HY.out.2 ((cmpN_neg _ _).1 hh)))
        clear hq
        go_wp2_with (go_at_call 21; refine (rcmp_any _ _ _ hy0 hx).mono ?_; rintro e w' ⟨rfl, rfl⟩)
        go_roundw
        case rel => exact ⟨i + 1, _, by omega, by go_num, rfl⟩
        case measure => simp [intOf]; omega
    · go_wp2_with fail
      go_loopw [9, 10] (fun vm v wr => ∃ (k m : Nat) (b : Bool), k ≤ n ∧ v = .int .i64 k ∧ vm = .bool b ∧ Hid (b = (l.take k).any fun y => sameB y x) ∧ wr = w2.drewN m) (fun _ v _ => n - (intOf v).toNat)
      case atStart => exact ⟨0, _, _, Nat.zero_le _, rfl, rfl, rfl, rfl⟩
      case round =>
        obtain ⟨k, m2, b, hk, rfl, rfl, HB2, rfl⟩ := hrel
        have hll : l.length = n := hA_2.len
        by_cases hlt2 : k < n
        · obtain ⟨ad, rfl⟩ := nums_ad hA_2 (by omega)
          have cc := nums_cell hA_2 hlt2
          obtain ⟨y, hy⟩ : ∃ y, l.getD k 0 = y := ⟨_, rfl⟩
          rw [hy] at cc
          have HN := Lib.hid (show (b || sameB y x) = (l.take (k + 1)).any fun y => sameB y x by
            rw [List.take_succ_eq_append_getElem (by omega), List.any_append, ← HB2.out]
            rw [List.getD_eq_getElem?_getD, List.getElem?_eq_getElem (by omega)] at hy
            rw [show l[k] = y from hy]; simp)
          clear hy
          cases b
          · go_wp2_with (go_at_call 15; refine (rsame_any _ _ _).mono ?_; rintro e w' ⟨rfl, rfl⟩)
            go_roundw
            case rel => exact ⟨k + 1, _, _, by omega, by go_num, rfl, (by have := HN.out; rw [Bool.false_or] at this; exact this), rfl⟩
            case measure => simp [intOf]; omega
          · go_wp2_with fail
            go_roundw
            case rel => exact ⟨k + 1, _, _, by omega, by go_num, rfl, (by have := HN.out; rw [Bool.true_or] at this; exact this), rfl⟩
            case measure => simp [intOf]; omega
        · obtain rfl : k = n := by omega
          have he : (ok == b) = true := by
            have h1 := HMET.out
            have h2 := HB2.out
            rw [List.take_of_length_le (by omega)] at h2
            rw [h1, h2]; simp
          have HE := Lib.hid he
          have HBW := bdrewN B2 m2
          obtain rfl : ok = b := by simpa using he
          clear he
          go_wp2_with fail
          refine (awake_any _).mono ?_
          rintro e wz ⟨rfl, hbz⟩
          go_wp2_with fail
          go_ret
          exact ⟨rfl, HBW.trans (hbz.mono HBW.size)⟩
theorem places_walk (A : Option Addr) (n c : Nat) (l : List Nat) (x : Nat) (w : World) (hA : IsNums w A n c l) (hx : (Lit.float .f64 x).wf = true) :
    Calls Try.prog 9 #[.slice A n c, .float .f64 x] w fun e w' => e = .returned (.bool true) ∧ Below w.heap.size w w' := by
  rcases Nat.lt_or_ge 300 n with h1 | h1
  · exact places_long A n c x w (decide_eq_false (by omega))
  · exact places_x A n c x l w hA (lt64_of hx) h1
end Go.Proofs.Yteekeoenbackcaa.So
