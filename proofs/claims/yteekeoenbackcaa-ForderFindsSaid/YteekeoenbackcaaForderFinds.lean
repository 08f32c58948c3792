/- ForderFinds: the walk. For every list and every three numbers the law returns true, and nothing that was there is written. No condition. -/
import Derived.Test.YteekeoenbackcaaFoD
namespace Go.Proofs.Yteekeoenbackcaa.So
set_option linter.unusedSimpArgs false
set_option linter.unusedVariables false
open Go.RowKit Go.Sort Go.Lib Fl Fb
attribute [local go_sem] u64_unsigned

theorem rsort_any (A : Option Addr) (n c : Nat) (l : List Nat) (w : World) (h : IsNums w A n c l) (hn : n ≤ 1000) :
    Calls Try.prog 22 #[.slice A n c] w fun e w' => ∃ A' c' rs, e = .returned (.slice A' n c') ∧ IsNums w' A' n c' rs ∧ rs.map cn = sortV l ∧ rs.Perm l ∧ Below w.heap.size w w' := by
  rcases Nat.eq_zero_or_pos n with h0 | h0
  · subst h0
    exact (rsort_zero A 0 c l w h rfl).mono fun e w' ⟨A', c', rs, he, hI, r⟩ => ⟨A', c', rs, he, hI, r⟩
  · exact rsort_some A n c l w h h0 hn
theorem find_any (A : Option Addr) (n c x : Nat) (l : List Nat) (w : World) (h : IsNums w A n c l) (hn : n ≤ 1000) (hx : lt64 x) :
    Calls Try.prog 24 #[.slice A n c, .float .f64 x] w fun e w' => e = .returned (.tuple #[.int .i64 (findI l x), .bool (findO l x)]) ∧ ∃ q, w' = w.drewN q := by
  rcases Nat.eq_zero_or_pos n with h0 | h0
  · subst h0
    obtain rfl : l = [] := List.eq_nil_of_length_eq_zero h.len
    have hr : risB [] = true := by decide
    rw [(find_yes (x := x) hr).1, (find_yes (x := x) hr).2]
    exact (find_none A c x w).mono fun e w' ⟨he, hw⟩ => ⟨he, 0, hw.symm⟩
  · obtain ⟨ad, rfl⟩ := nums_ad h h0
    obtain ⟨m, rfl⟩ : ∃ m, n = m + 1 := ⟨n - 1, by omega⟩
    exact find_some ad m c x l w h hn hx
set_option maxHeartbeats 1000000 in
theorem finds_long (A : Option Addr) (n c x lo hi : Nat) (w : World) (h1 : decide ((n : Int) ≤ 300) = false) :
    Calls Try.prog 10 #[.slice A n c, .float .f64 x, .float .f64 lo, .float .f64 hi] w fun e w' => e = .returned (.bool true) ∧ Below w.heap.size w w' := by
  go_enter Try.func10, Try.ntmps10
  go_wp2_with fail
  refine (small_any _ _ _ _).mono ?_
  rintro e w' ⟨rfl, rfl⟩
  go_wp2_with fail
  refine (awake_any _).mono ?_
  rintro e wz ⟨rfl, hbz⟩
  go_wp2_with fail
  go_ret
  exact ⟨rfl, hbz⟩
set_option maxHeartbeats 4000000 in
theorem finds_x (A : Option Addr) (n c x lo hi : Nat) (l : List Nat) (w : World) (hA : IsNums w A n c l) (hx : lt64 x) (hlo : lt64 lo) (hhi : lt64 hi) (hn : n ≤ 300) :
    Calls Try.prog 10 #[.slice A n c, .float .f64 x, .float .f64 lo, .float .f64 hi] w fun e w' => e = .returned (.bool true) ∧ Below w.heap.size w w' := by
  have q1 : decide (((n : Nat) : Int) ≤ 300) = true := decide_eq_true (by omega)
  have s1 : sameB (clampV x lo hi) (clampV x lo hi) = true := sameB_yes rfl
  go_enter Try.func10, Try.ntmps10
  go_wp2_with fail
  refine (small_any _ _ _ _).mono ?_
  rintro e w' ⟨rfl, rfl⟩
  go_wp2_with fail
  refine (rsort_any _ _ _ _ _ hA (by omega)).mono ?_
  rintro e w1 ⟨A2, c2, rs, rfl, hR, hcn, hpm, hb1⟩
  have B1 := hb1
  have hA_1 := hA.next hb1
  clear hA
  clear hb1
  go_wp2_with fail
  refine (find_any _ _ _ x _ _ hA_1 (by omega) hx).mono ?_
  rintro e w2 ⟨rfl, q2, hq2⟩
  have hb2 : Go.RowKit.Below (w1).heap.size w1 w2 := hq2 ▸ below_drawn _ q2
  clear hq2
  have B2 := B1.trans (hb2.mono B1.size)
  have hA_2 := hA_1.next hb2
  clear hA_1
  have hR_2 := hR.next hb2
  clear hR
  clear hb2
  go_wp2_with fail
  refine (rfind_any _ _ _ x _ _ hA_2 (by omega) hx).mono ?_
  rintro e w3 ⟨rfl, q3, hq3⟩
  have hb3 : Go.RowKit.Below (w2).heap.size w2 w3 := hq3 ▸ below_drawn _ q3
  clear hq3
  have B3 := B2.trans (hb3.mono B2.size)
  have hA_3 := hA_2.next hb3
  clear hA_2
  have hR_3 := hR_2.next hb3
  clear hR_2
  clear hb3
  go_wp2_with fail
  refine (find_any _ _ _ x _ _ hR_3 (by omega) hx).mono ?_
  rintro e w4 ⟨rfl, q4, hq4⟩
  have hb4 : Go.RowKit.Below (w3).heap.size w3 w4 := hq4 ▸ below_drawn _ q4
  clear hq4
  have B4 := B3.trans (hb4.mono B3.size)
  have hA_4 := hA_3.next hb4
  clear hA_3
  have hR_4 := hR_3.next hb4
  clear hR_3
  clear hb4
  go_wp2_with fail
  refine (rfind_any _ _ _ x _ _ hR_4 (by omega) hx).mono ?_
  rintro e w5 ⟨rfl, q5, hq5⟩
  have hb5 : Go.RowKit.Below (w4).heap.size w4 w5 := hq5 ▸ below_drawn _ q5
  clear hq5
  have B5 := B4.trans (hb5.mono B4.size)
  have hA_5 := hA_4.next hb5
  clear hA_4
  have hR_5 := hR_4.next hb5
  clear hR_4
  clear hb5
  have e1 : (findI l x == findI l x) = true := by simp
  have e2 : (findI rs x == findI rs x) = true := by simp
  have e3 : (findO l x == findO l x) = true := by simp
  have e4 : (findO rs x == findO rs x) = true := by simp
  go_wp2_with fail
  refine (clamp_any _ _ _ _ hx hlo hhi).mono ?_
  rintro e w' ⟨rfl, rfl⟩
  go_wp2_with fail
  refine (rclamp_any _ _ _ _ hx hlo hhi).mono ?_
  rintro e w' ⟨rfl, rfl⟩
  go_wp2_with fail
  refine (rsame_any _ _ _).mono ?_
  rintro e w' ⟨rfl, rfl⟩
  go_wp2_with fail
  refine (awake_any _).mono ?_
  rintro e wz ⟨rfl, hbz⟩
  go_wp2_with fail
  go_ret
  exact ⟨rfl, B5.trans (hbz.mono B5.size)⟩
theorem finds_walk (A : Option Addr) (n c : Nat) (l : List Nat) (x lo hi : Nat) (w : World) (hA : IsNums w A n c l) (hx : (Lit.float .f64 x).wf = true) (hlo : (Lit.float .f64 lo).wf = true) (hhi : (Lit.float .f64 hi).wf = true) :
    Calls Try.prog 10 #[.slice A n c, .float .f64 x, .float .f64 lo, .float .f64 hi] w fun e w' => e = .returned (.bool true) ∧ Below w.heap.size w w' := by
  rcases Nat.lt_or_ge 300 n with h1 | h1
  · exact finds_long A n c x lo hi w (decide_eq_false (by omega))
  · exact finds_x A n c x lo hi l w hA (lt64_of hx) (lt64_of hlo) (lt64_of hhi) h1
end Go.Proofs.Yteekeoenbackcaa.So
