/- ScoreRanks: the walk. For every list of zones and every time the law returns true, and nothing that was there is written. No condition. -/
import Derived.Test.YtchhnjadnacniaaRrB
namespace Go.Proofs.Ytchhnjadnacniaa.Rk
set_option linter.unusedSimpArgs false
set_option linter.unusedVariables false
open Go.RowKit Go.Sort Go.Lib Fl Fb Sc
open Go.Proofs.Ytchhnjadnacniaa.So
attribute [local go_sem] u64_unsigned

set_option maxHeartbeats 4000000 in
theorem ints_same (A B : Option Addr) (n c d a0 b0 : Nat) (l : List Nat) (w : World) (hA : Rd w a0 A (l.map nv)) (hB : Rd w b0 B (l.map nv)) (hl : l.length = n) (hn : n ≤ 100000) :
    Calls Try.prog 18 #[.slice A n c, .slice B n d] w fun e w' => e = .returned (.bool true) ∧ ∃ q, w' = w.drewN q := by
  go_enter Try.func18, Try.ntmps18
  go_wp2_with fail
  go_loopw [5] (fun i wr => ∃ k q : Nat, k ≤ n ∧ i = .int .i64 k ∧ wr = w.drewN q) (fun i _ => n - (intOf i).toNat)
  case atStart => exact ⟨0, 0, Nat.zero_le _, rfl, rfl⟩
  case round =>
    obtain ⟨k, q, hk, rfl, rfl⟩ := hrel
    by_cases hlt : k < n
    · obtain ⟨ad, rfl, _, c1⟩ := hA.get (k := k) (by rw [List.length_map]; omega)
      obtain ⟨bd, rfl, _, c2⟩ := hB.get (k := k) (by rw [List.length_map]; omega)
      rw [List.getElem_map] at c1 c2
      obtain ⟨x, hx⟩ : ∃ x, l[k]'(by omega) = x := ⟨_, rfl⟩
      rw [hx] at c1 c2
      unfold nv at c1 c2
      have n0 : (k : Int) < (n : Int) := by omega
      have n1 : (0 : Int) ≤ (k : Int) := by omega
      have wk : IntKind.i64.wrap (k : Int) = k := IntWalk.i64_in _ (by omega)
      clear hx
      go_wp2_with fail
      refine wp_region_held_drew (S := Drawn w) (by kernel_rfl) (by first | exact Drawn.of _ _ | exact Drawn.one _) (fun hHeld => ?_)
      refine wpAnyH_take (i := 0) (v := ?v1_0) (by simp only [List.getElem?_toArray, List.getElem?_cons_succ, List.getElem?_cons_zero]; rfl) (by kernel_rfl) (by kernel_rfl) (by kernel_rfl) (by exact fun _ _ _ h => h) (Or.inl ⟨by rfl, ?h1_0⟩) hHeld ?_
      case h1_0 => (intro w' hSw; obtain ⟨m, rfl⟩ := hSw; go_simp <;> with_reducible rfl)
      try simp only [Act.put, List.setIfInBounds_toArray, List.set_cons_zero, List.set_cons_succ]
      refine wpAnyH_take (i := 1) (v := ?v2_1) (by simp only [List.getElem?_toArray, List.getElem?_cons_succ, List.getElem?_cons_zero]; rfl) (by kernel_rfl) (by kernel_rfl) (by kernel_rfl) (by exact fun _ _ _ h => h) (Or.inl ⟨by rfl, ?h2_1⟩) hHeld ?_
      case h2_1 => (intro w' hSw; obtain ⟨m, rfl⟩ := hSw; go_simp <;> with_reducible rfl)
      try simp only [Act.put, List.setIfInBounds_toArray, List.set_cons_zero, List.set_cons_succ]
      refine wpAnyH_take (i := 2) (v := ?v3_2) (by simp only [List.getElem?_toArray, List.getElem?_cons_succ, List.getElem?_cons_zero]; rfl) (by kernel_rfl) (by kernel_rfl) (by kernel_rfl) (by exact fun _ _ _ h => h) (Or.inl ⟨by rfl, ?h3_2⟩) hHeld ?_
      case h3_2 => (intro w' hSw; obtain ⟨m, rfl⟩ := hSw; go_simp <;> with_reducible rfl)
      try simp only [Act.put, List.setIfInBounds_toArray, List.set_cons_zero, List.set_cons_succ]
      refine wpAnyH_take (i := 3) (v := ?v4_3) (by simp only [List.getElem?_toArray, List.getElem?_cons_succ, List.getElem?_cons_zero]; rfl) (by kernel_rfl) (by kernel_rfl) (by kernel_rfl) (by exact fun _ _ _ h => h) (Or.inl ⟨by rfl, ?h4_3⟩) hHeld ?_
      case h4_3 => (intro w' hSw; obtain ⟨m, rfl⟩ := hSw; go_simp <;> with_reducible rfl)
      try simp only [Act.put, List.setIfInBounds_toArray, List.set_cons_zero, List.set_cons_succ]
      refine wpAnyH_take (i := 4) (v := ?v5_4) (by simp only [List.getElem?_toArray, List.getElem?_cons_succ, List.getElem?_cons_zero]; rfl) (by kernel_rfl) (by kernel_rfl) (by kernel_rfl) (by exact fun _ _ _ h => h) (Or.inl ⟨by rfl, ?h5_4⟩) hHeld ?_
      case h5_4 => (intro w' hSw; obtain ⟨m, rfl⟩ := hSw; go_simp <;> with_reducible rfl)
      try simp only [Act.put, List.setIfInBounds_toArray, List.set_cons_zero, List.set_cons_succ]
      refine wpAnyH_take (i := 5) (v := ?v6_5) (by simp only [List.getElem?_toArray, List.getElem?_cons_succ, List.getElem?_cons_zero]; rfl) (by kernel_rfl) (by kernel_rfl) (by kernel_rfl) (by exact fun _ _ _ h => h) (Or.inl ⟨by rfl, ?h6_5⟩) hHeld ?_
      case h6_5 => (intro w' hSw; obtain ⟨m, rfl⟩ := hSw; go_simp <;> with_reducible rfl)
      try simp only [Act.put, List.setIfInBounds_toArray, List.set_cons_zero, List.set_cons_succ]
      refine wpAnyH_take (i := 6) (v := ?v7_6) (by simp only [List.getElem?_toArray, List.getElem?_cons_succ, List.getElem?_cons_zero]; rfl) (by kernel_rfl) (by kernel_rfl) (by kernel_rfl) (by exact fun _ _ _ h => h) (Or.inl ⟨by rfl, ?h7_6⟩) hHeld ?_
      case h7_6 => (intro w' hSw; obtain ⟨m, rfl⟩ := hSw; go_simp <;> with_reducible rfl)
      try simp only [Act.put, List.setIfInBounds_toArray, List.set_cons_zero, List.set_cons_succ]
      refine wpAnyH_take (i := 7) (v := ?v8_7) (by simp only [List.getElem?_toArray, List.getElem?_cons_succ, List.getElem?_cons_zero]; rfl) (by kernel_rfl) (by kernel_rfl) (by kernel_rfl) (by exact fun _ _ _ h => h) (Or.inl ⟨by rfl, ?h8_7⟩) hHeld ?_
      case h8_7 => (intro w' hSw; obtain ⟨m, rfl⟩ := hSw; go_simp <;> with_reducible rfl)
      try simp only [Act.put, List.setIfInBounds_toArray, List.set_cons_zero, List.set_cons_succ]
      refine wpAnyH_take (i := 8) (v := ?v9_8) (by simp only [List.getElem?_toArray, List.getElem?_cons_succ, List.getElem?_cons_zero]; rfl) (by kernel_rfl) (by kernel_rfl) (by kernel_rfl) (by exact fun _ _ _ h => h) (Or.inl ⟨by rfl, ?h9_8⟩) hHeld ?_
      case h9_8 => (intro w' hSw; obtain ⟨m, rfl⟩ := hSw; go_simp <;> with_reducible rfl)
      try simp only [Act.put, List.setIfInBounds_toArray, List.set_cons_zero, List.set_cons_succ]
      refine wpAnyH_done (by kernel_rfl) ?_ _
      clear wk
      go_wp2_with fail
      go_roundw
      case rel => exact ⟨k + 1, _, by omega, by go_num, rfl⟩
      case measure => simp [intOf]; omega
    · obtain rfl : k = n := by omega
      go_wp2_with fail
      go_ret
      exact ⟨rfl, q, rfl⟩
set_option maxHeartbeats 1000000 in
theorem ranks_0 (A : Option Addr) (n c : Nat) (now : Int) (w : World) (h0 : decide (n ≤ 200) = false) :
    Calls Try.prog 5 #[.slice A n c, .int .i64 now] w fun e w' => e = .returned (.bool true) ∧ Below w.heap.size w w' := by
  go_enter Try.func5, Try.ntmps5
  go_wp2_with fail
  refine (small_any _ _ _ _).mono ?_
  rintro e w' ⟨rfl, rfl⟩
  go_wp2_with fail
  refine (awake_any _).mono ?_
  rintro e w1 ⟨rfl, hb⟩
  go_wp2_with fail
  go_ret
  exact ⟨rfl, hb⟩
set_option maxRecDepth 100000 in
set_option maxHeartbeats 4000000 in
theorem ranks_none (A : Option Addr) (n c : Nat) (zs : List Zn) (now : Int) (w : World) (h : IsZones w A n c zs) (h0 : decide (n ≤ 200) = true) (hr : rankV (zs.map (wV now)) = []) :
    Calls Try.prog 5 #[.slice A n c, .int .i64 now] w fun e w' => e = .returned (.bool true) ∧ Below w.heap.size w w' := by
  have hn : n ≤ 200 := of_decide_eq_true h0
  go_enter Try.func5, Try.ntmps5
  go_wp2_with fail
  refine (small_any _ _ _ _).mono ?_
  rintro e w' ⟨rfl, rfl⟩
  go_wp2_with fail
  refine (rrank_any _ _ _ _ _ _ h (by omega)).mono ?_
  rintro e w1 ⟨A1, c1, rfl, hO, hb⟩
  rw [hr] at hO ⊢
  have h1 := h.next hb
  simp only [List.length_nil]
  go_wp2_with fail
  refine (choose_none _ _ _ _ _ _ h1 (by omega) hr).mono ?_
  rintro e w2 ⟨rfl, hb2⟩
  have h2 := h1.next hb2
  have HB2 := hb.trans (hb2.mono hb.size)
  go_wp2_with fail
  refine (rank_any _ _ _ _ _ _ h2 (by omega)).mono ?_
  rintro e w3 ⟨A3, c3, rfl, hO3, hb3⟩
  rw [hr] at hO3 ⊢
  simp only [List.length_nil]
  have HB3 := HB2.trans (hb3.mono HB2.size)
  clear hO hO3 h h1 h2 hb hb2 hb3
  go_wp2_with fail
  refine (awake_any _).mono ?_
  rintro e w4 ⟨rfl, hb4⟩
  have HB4 := HB3.trans (hb4.mono HB3.size)
  go_wp2_with fail
  go_ret
  exact ⟨rfl, HB4⟩
set_option maxRecDepth 100000 in
set_option maxHeartbeats 4000000 in
theorem ranks_some (A : Option Addr) (n c : Nat) (zs : List Zn) (now : Int) (w : World) (h : IsZones w A n c zs) (h0 : decide (n ≤ 200) = true) (q : Nat) (rs : List Nat) (hr : rankV (zs.map (wV now)) = q :: rs) :
    Calls Try.prog 5 #[.slice A n c, .int .i64 now] w fun e w' => e = .returned (.bool true) ∧ Below w.heap.size w w' := by
  have hn : n ≤ 200 := of_decide_eq_true h0
  go_enter Try.func5, Try.ntmps5
  go_wp2_with fail
  refine (small_any _ _ _ _).mono ?_
  rintro e w' ⟨rfl, rfl⟩
  go_wp2_with fail
  refine (rrank_any _ _ _ _ _ _ h (by omega)).mono ?_
  rintro e w1 ⟨A1, c1, rfl, hO, hb⟩
  rw [hr] at hO ⊢
  have h1 := h.next hb
  have hrl : (q :: rs).length ≤ n := by rw [← hr]; have := rankV_len (zs.map (wV now)); rw [List.length_map, h.len] at this; exact this
  obtain ⟨m, hm⟩ : ∃ m, (q :: rs).length = m := ⟨_, rfl⟩
  rw [hm] at hO hrl ⊢
  have hm1 : 0 < m := by rw [← hm]; simp
  have t0 : ((m : Int) == 0) = false := beq_eq_false_iff_ne.2 (by omega)
  have t1 : (m == 0) = false := beq_eq_false_iff_ne.2 (by omega)
  have m0 : (0 : Int) < (m : Int) := by omega
  go_wp2_with fail
  refine (choose_some _ _ _ _ _ _ h1 (by omega) q rs hr).mono ?_
  rintro e w2 ⟨rfl, hb2⟩
  have h2 := h1.next hb2
  have HB2 := hb.trans (hb2.mono hb.size)
  go_wp2_with fail
  refine (rank_any _ _ _ _ _ _ h2 (by omega)).mono ?_
  rintro e w3 ⟨A3, c3, rfl, hO3, hb3⟩
  rw [hr, hm] at hO3 ⊢
  have HB3 := HB2.trans (hb3.mono HB2.size)
  have r1 := (rank_rd hO).below (hb2.trans (hb3.mono hb2.size))
  have r3 := rank_rd hO3
  obtain ⟨ad, rfl, had, c0⟩ := r1.get (k := 0) (by simp)
  have hs1 := Nat.le_trans hb2.size hb3.size
  clear hO hO3 h h1 h2 hb hb2 hb3
  go_wp2_with fail
  refine (ints_same _ _ _ _ _ _ _ _ _ r3 r1 hm (by omega)).mono ?_
  rintro e w4 ⟨rfl, qq, rfl⟩
  have c00 : w3.cell? ad = some (.int .i64 (q : Int)) := c0
  clear c0 r1 r3
  go_wp2_with fail
  refine (awake_any _).mono ?_
  rintro e w5 ⟨rfl, hb4⟩
  have HB4 := (bdrewN HB3 qq).trans (hb4.mono HB3.size)
  go_wp2_with fail
  go_ret
  exact ⟨rfl, HB4⟩
theorem ranks_walk (A : Option Addr) (n c : Nat) (zs : List Zn) (now : Int) (w : World) (h : IsZones w A n c zs) (_h2 : (Lit.int .i64 now).wf = true) :
    Calls Try.prog 5 #[.slice A n c, .int .i64 now] w fun e w' => e = .returned (.bool true) ∧ Below w.heap.size w w' := by
  cases h0 : decide (n ≤ 200)
  · exact ranks_0 A n c now w h0
  · rcases hr : rankV (zs.map (wV now)) with _ | ⟨q, rs⟩
    · exact ranks_none A n c zs now w h h0 hr
    · exact ranks_some A n c zs now w h h0 q rs hr
end Go.Proofs.Ytchhnjadnacniaa.Rk
