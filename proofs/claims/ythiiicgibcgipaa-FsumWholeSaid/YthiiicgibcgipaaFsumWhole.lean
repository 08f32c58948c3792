/- FsumWhole: the walk. For every list of whole numbers and every turn the law returns true, and nothing that was there is written. No condition. -/
import Derived.Test.YthiiicgibcgipaaFsG
namespace Go.Proofs.Ythiiicgibcgipaa.Fs
set_option linter.unusedSimpArgs false
set_option linter.unusedVariables false
open Go.RowKit Fl Fb
attribute [local go_sem] and_sgn andNot_sgn xor_sgn xor_all run_neg_float u64_unsigned

set_option maxHeartbeats 1000000 in
theorem whole_long (A : Option Addr) (n c : Nat) (k : Int) (w : World) (h1 : decide ((300 : Int) < n) = true) :
    Calls Try.prog 3 #[.slice A n c, .int .i64 k] w fun e w' => e = .returned (.bool true) ∧ Below w.heap.size w w' := by
  go_enter Try.func3, Try.ntmps3
  go_wp2_with fail
  refine (awake_any _).mono ?_
  rintro e w2 ⟨rfl, hb2⟩
  go_wp2_with fail
  go_ret
  exact ⟨rfl, hb2⟩
set_option maxRecDepth 100000 in
set_option maxHeartbeats 4000000 in
theorem whole_x (A : Option Addr) (n c : Nat) (l : List Int) (k0 : Int) (w : World) (h : IsInts .i64 w A n c l) (hk0 : (Lit.int .i64 k0).wf = true) (h1 : decide ((300 : Int) < n) = false) :
    Calls Try.prog 3 #[.slice A n c, .int .i64 k0] w fun e w' => e = .returned (.bool true) ∧ Below w.heap.size w w' := by
  have hl := h.len
  have hn : n ≤ 300 := by have := of_decide_eq_false h1; omega
  obtain ⟨i0, hi, hz0, hz1, hz2⟩ := info_parts infoF
  go_enter Try.func3, Try.ntmps3
  go_wp2_with fail
  go_loopw [5, 6, 7] (fun vn v i wr => ∃ (k : Nat) (s : Int) (rs : List Nat), k ≤ n ∧ i = .int .i64 k ∧ vn = .int .i64 s ∧ Hid (s = isum (l.take k)) ∧ -329853488332800 ≤ s ∧ s ≤ 329853488332800 ∧ Hid (∀ x ∈ l.take k, x.natAbs ≤ 1099511627776) ∧ Building w.heap.size w wr v k ((l.take k).map F) rs) (fun _ _ i _ => n - (intOf i).toNat)
  case atStart => exact ⟨0, 0, [], Nat.zero_le _, rfl, rfl, rfl, by omega, by omega, (by intro x hx; simp at hx), Building.start w⟩
  case round =>
    obtain ⟨k, s, rs, hk, rfl, rfl, HS, hs1, hs2, HA, hB⟩ := hrel
    by_cases hlt : k < n
    · obtain ⟨ad, rfl, hbb, hcell⟩ := (h.rd.next (Nat.le_refl _) hB.bel).get (k := k) (by rw [List.length_map]; omega)
      rw [List.getElem_map] at hcell
      obtain ⟨x, hx0⟩ : ∃ x, l[k]'(by omega) = x := ⟨_, rfl⟩
      rw [hx0] at hcell
      have HX := Lib.hid hx0
      clear hx0
      by_cases c1 : x < -1099511627776
      · have t1 : decide (x < -1099511627776) = true := decide_eq_true c1
        go_wp2_with fail
        refine (awake_any _).mono ?_
        rintro e w2 ⟨rfl, hb2⟩
        go_wp2_with fail
        go_ret
        exact ⟨rfl, hB.bel.trans (hb2.mono (hB.bel).size)⟩
      · by_cases c2 : 1099511627776 < x
        · have t1 : decide (x < -1099511627776) = false := decide_eq_false c1
          have t2 : decide (1099511627776 < x) = true := decide_eq_true c2
          go_wp2_with fail
          refine (awake_any _).mono ?_
          rintro e w2 ⟨rfl, hb2⟩
          go_wp2_with fail
          go_ret
          exact ⟨rfl, hB.bel.trans (hb2.mono (hB.bel).size)⟩
        · have t1 : decide (x < -1099511627776) = false := decide_eq_false c1
          have t2 : decide (1099511627776 < x) = false := decide_eq_false c2
          have c3 : -1099511627776 ≤ x := by omega
          have c4 : x ≤ 1099511627776 := by omega
          go_wp2_with (at_builtin; go_must (refine wpList_app1 rfl _ _ 24 rfl w.heap.size 25 i0 (.float .f64 0) 8 Try.underlying24 hi hz0 hz1 hz2 rfl _ k _ (by rfl) (by exact hB.own) (by exact hB.bel.size) (by exact hB.bel) _ (by rfl) (by rfl) (by omega) (by omega) ?_); intro v' w2 hO2 hW2 _)
          have HS1 : isum (l.take (k + 1)) = s + x := by rw [isum_take (by omega), HX.out, ← HS.out]
          have HA1 : ∀ y ∈ l.take (k + 1), y.natAbs ≤ 1099511627776 := by
            intro y hy
            rw [List.take_succ_eq_append_getElem (by omega), HX.out] at hy
            rcases List.mem_append.1 hy with g | g
            · exact HA.out y g
            · rw [List.mem_singleton] at g; rw [g]; omega
          have hb3 := isum_bd HA1
          rw [HS1] at hb3
          have hb4 : (l.take (k + 1)).length * 1099511627776 ≤ 300 * 1099511627776 := Nat.mul_le_mul_right _ (by rw [List.length_take]; omega)
          have hs3 : -329853488332800 ≤ s + x := by omega
          have hs4 : s + x ≤ 329853488332800 := by omega
          have HS2 := Lib.hid HS1
          clear HS1 hb3 hb4
          go_roundw
          case rel => exact ⟨k + 1, s + x, rs ++ [F x], by omega, by go_num, rfl, HS2.out.symm, hs3, hs4, HA1, by rw [take_mapI _ _ _ (by omega), HX.out]; exact hB.more hO2 hW2 (cn_num (ofInt_num x).1) (F_lt x)⟩
          case measure => simp [intOf]; omega
    · obtain rfl : k = n := by omega
      obtain ⟨A2, c2, rfl, hI⟩ := nums_of_own hB.own hB.wf
      have hlr := hI.len
      have HW := hB.bel
      rw [List.take_of_length_le (by omega)] at HS HA
      have HC := Lib.hid (show rs.map cn = l.map F by rw [hB.cns, List.take_of_length_le (by omega)])
      have HV := Lib.hid (show sumV rs = floatOfInt .f64 s by
        rw [← sumV_cn, HC.out, HS.out]
        exact sum_F HA.out (by rw [hl]; exact Nat.le_trans (Nat.mul_le_mul_right _ hn) (by decide)) (by decide))
      go_wp2_with fail
      refine (round_any k0 (k + 1) _ (by omega) (by omega) hk0).mono ?_
      rintro e w' ⟨⟨j, hj, rfl⟩, rfl⟩
      have j0 : (0 : Int) ≤ (j : Int) := by omega
      have j1 : (j : Int) ≤ (k : Int) := by omega
      have j2 : j ≤ k := by omega
      have j3 : (k : Int) ≤ (c2 : Int) := by have := hI.cap; omega
      have j4 : (j : Int) ≤ (c2 : Int) := by omega
      have HW0 : Below w.heap.size w (wr.alloc (.cells #[] 25)).drew := bdrew (HW.alloc HW.size _)
      have hR0 : Rd (wr.alloc (.cells #[] 25)).drew wr.heap.size A2 (rs.map (Value.float .f64)) := (hI.rd.alloc (Nat.le_refl _) _).drew
      have hz0_ : wr.heap.size ≤ (wr.alloc (.cells #[] 25)).drew.heap.size := by simp
      have hown0 : ∀ g, (Value.slice (some ⟨wr.heap.size, 0, none⟩) 0 0).ownBlock = some g → wr.heap.size = g := fun g hg => by injection hg
      go_wp2_with fail
      refine wp_region_held_drew (S := fun _ => True) (by kernel_rfl) trivial (fun _ => ?_)
      refine wpAnyH_take (i := 1) (v := ?v1_1) (by simp only [List.getElem?_toArray, List.getElem?_cons_succ, List.getElem?_cons_zero]; rfl) (by kernel_rfl) (by kernel_rfl) (by kernel_rfl) (by exact fun _ _ _ h => h) (Or.inl ⟨by rfl, ?h1_1⟩) trivial ?_
      case h1_1 => (intro w' _; go_simp <;> with_reducible rfl)
      try simp only [Act.put, List.setIfInBounds_toArray, List.set_cons_zero, List.set_cons_succ]
      refine wpAnyH_take (i := 2) (v := ?v2_2) (by simp only [List.getElem?_toArray, List.getElem?_cons_succ, List.getElem?_cons_zero]; rfl) (by kernel_rfl) (by kernel_rfl) (by kernel_rfl) (by exact fun _ _ _ h => h) (Or.inl ⟨by rfl, ?h2_2⟩) trivial ?_
      case h2_2 => (intro w' _; go_simp <;> with_reducible rfl)
      try simp only [Act.put, List.setIfInBounds_toArray, List.set_cons_zero, List.set_cons_succ]
      refine wpAnyH_take (i := 3) (v := ?v3_3) (by simp only [List.getElem?_toArray, List.getElem?_cons_succ, List.getElem?_cons_zero]; rfl) (by kernel_rfl) (by kernel_rfl) (by kernel_rfl) (by exact fun _ _ _ h => h) (Or.inl ⟨by rfl, ?h3_3⟩) trivial ?_
      case h3_3 => (intro w' _; go_simp <;> with_reducible rfl)
      try simp only [Act.put, List.setIfInBounds_toArray, List.set_cons_zero, List.set_cons_succ]
      refine wpAnyH_take (i := 5) (v := ?v4_5) (by simp only [List.getElem?_toArray, List.getElem?_cons_succ, List.getElem?_cons_zero]; rfl) (by kernel_rfl) (by kernel_rfl) (by kernel_rfl) (by exact fun _ _ _ h => h) (Or.inl ⟨by rfl, ?h4_5⟩) trivial ?_
      case h4_5 => (intro w' _; go_simp <;> with_reducible rfl)
      try simp only [Act.put, List.setIfInBounds_toArray, List.set_cons_zero, List.set_cons_succ]
      refine wpAnyH_take (i := 6) (v := ?v5_6) (by simp only [List.getElem?_toArray, List.getElem?_cons_succ, List.getElem?_cons_zero]; rfl) (by kernel_rfl) (by kernel_rfl) (by kernel_rfl) (by exact fun _ _ _ h => h) (Or.inl ⟨by rfl, ?h5_6⟩) trivial ?_
      case h5_6 => (intro w' _; go_simp <;> with_reducible rfl)
      try simp only [Act.put, List.setIfInBounds_toArray, List.set_cons_zero, List.set_cons_succ]
      refine wpAnyH_take (i := 7) (v := ?v6_7) (by simp only [List.getElem?_toArray, List.getElem?_cons_succ, List.getElem?_cons_zero]; rfl) (by kernel_rfl) (by kernel_rfl) (by kernel_rfl) (by exact fun _ _ _ h => h) (Or.inl ⟨by rfl, ?h6_7⟩) trivial ?_
      case h6_7 => (intro w' _; go_simp <;> with_reducible rfl)
      try simp only [Act.put, List.setIfInBounds_toArray, List.set_cons_zero, List.set_cons_succ]
      refine wpAnyH_ready (rs := [0]) (by kernel_rfl) (by simp) ?_
      refine AllReadyH.cons (by simp only [List.getElem?_toArray, List.getElem?_cons_succ, List.getElem?_cons_zero]; rfl) (fun K hK => ?_) AllReadyH.nil
      go_simp
      refine hK.out _ _ trivial (fun _ => ?_)
      clear hK K
      try simp only [Act.put, List.setIfInBounds_toArray, List.set_cons_zero, List.set_cons_succ]
      refine wpAnyH_ready (rs := [4]) (by kernel_rfl) (by simp) ?_
      refine AllReadyH.cons (by simp only [List.getElem?_toArray, List.getElem?_cons_succ, List.getElem?_cons_zero]; rfl) (fun K hK => ?_) AllReadyH.nil
      refine step_appN _ (by rfl) _ _ 24 (by rfl) wr.heap.size 25 i0 (.float .f64 0) 8 Try.underlying24 hi hz0 hz1 hz2 (by rfl) _ _ _ (by rfl) (by exact World.ownsRow_lit wr #[] 0 (Nat.le_refl _) (by decide) rfl) _ _ _ _ ((rs.map (Value.float .f64)).drop j) (by rfl) (by simp; omega) (by exact hR0.dropInt (by simp; omega) j2 hI.cap rfl) (fun u hu => one_float u (List.mem_of_mem_drop hu)) (by omega) (by omega) (by exact hz0_) ?_
      intro v1 w1 hO1 hG1
      refine hK.out _ _ trivial (fun _ => ?_)
      clear hK K
      try simp only [Act.put, List.setIfInBounds_toArray, List.set_cons_zero, List.set_cons_succ]
      have HW1 : Below w.heap.size w w1 := HW0.grown hG1 HW0.size (fun g hg => by rw [← hown0 g hg]; exact HW.size)
      have hR1 : Rd w1 wr.heap.size A2 (rs.map (Value.float .f64)) := hR0.grown hG1 (by simp) (fun g hg => by rw [← hown0 g hg]; exact Nat.le_refl _)
      have hz1' : wr.heap.size ≤ w1.heap.size := Nat.le_trans (by simp) hG1.size
      refine wpAnyH_ready (rs := [8]) (by kernel_rfl) (by simp) ?_
      refine AllReadyH.cons (by simp only [List.getElem?_toArray, List.getElem?_cons_succ, List.getElem?_cons_zero]; rfl) (fun K hK => ?_) AllReadyH.nil
      refine step_appN _ (by rfl) _ _ 24 (by rfl) wr.heap.size 25 i0 (.float .f64 0) 8 Try.underlying24 hi hz0 hz1 hz2 (by rfl) _ (0 + (k - j)) _ (by rfl) (by exact hO1) _ _ _ _ ((rs.map (Value.float .f64)).take j) (by rfl) (by simp; omega) (by exact hR1.take j) (fun u hu => one_float u (List.mem_of_mem_take hu)) (by omega) (by omega) (by exact hz1') ?_
      intro v2 w2 hO2 hG2
      refine hK.out _ _ trivial (fun _ => ?_)
      clear hK K
      try simp only [Act.put, List.setIfInBounds_toArray, List.set_cons_zero, List.set_cons_succ]
      refine wpAnyH_take (i := 9) (v := ?v7_9) (by simp only [List.getElem?_toArray, List.getElem?_cons_succ, List.getElem?_cons_zero]; rfl) (by kernel_rfl) (by kernel_rfl) (by kernel_rfl) (by exact fun _ _ _ h => h) (Or.inl ⟨by rfl, ?h7_9⟩) trivial ?_
      case h7_9 => (intro w' _; go_simp <;> with_reducible rfl)
      try simp only [Act.put, List.setIfInBounds_toArray, List.set_cons_zero, List.set_cons_succ]
      refine wpAnyH_done (by kernel_rfl) ?_ _
      have HW2 : Below w.heap.size w w2 := HW1.grown hG2 HW1.size (fun g hg => Nat.le_trans HW.size (hO1.lt g hg).1)
      have hI2 := hI.rd_ (hR1.grown hG2 hz1' (fun g hg => (hO1.lt g hg).1)) (Nat.le_trans hz1' hG2.size)
      have hlen : 0 + (k - j) + j = k := by omega
      rw [hlen] at hO2
      clear hlen
      obtain ⟨A3, c3, rfl, hJ⟩ := nums_of_own (l := rs.drop j ++ rs.take j) (by rw [List.map_append, List.map_drop, List.map_take]; exact hO2) (by
        intro x hx
        rcases List.mem_append.1 hx with g | g
        · exact hI.wf x (List.mem_of_mem_drop g)
        · exact hI.wf x (List.mem_of_mem_take g))
      have HV2 := Lib.hid (show sumV (rs.drop j ++ rs.take j) = floatOfInt .f64 s by
        rw [← sumV_cn, List.map_append, List.map_drop, List.map_take, HC.out, HS.out]
        exact sum_F_turn HA.out (by rw [hl]; exact Nat.le_trans (Nat.mul_le_mul_right _ hn) (by decide)) (by decide))
      have teq := t_eq_num (x := floatOfInt .f64 s) (by have := ofInt_num s; exact this.1)
      have hgo := HW2
      clear HS HA HC HW HW0 HW1 HW2 hR0 hR1 hO1 hO2 hG1 hG2 hB hI hl hlr h
      generalize (if c2 = j then A2 else Option.map (fun x => x.add j) A2) = AX
      go_wp2_with fail
      refine (sum_any _ _ _ _ _ hI2 (by omega)).mono ?_
      rintro e w3 ⟨rfl, hb3⟩
      have HW3 := hgo.trans (hb3.mono hgo.size)
      have hJ3 := hJ.next hb3
      rw [HV.out]
      go_wp2_with fail
      refine (sum_any _ _ _ _ _ hJ3 (by omega)).mono ?_
      rintro e w4 ⟨rfl, hb4⟩
      have HW4 := HW3.trans (hb4.mono HW3.size)
      rw [HV2.out]
      go_wp2_with fail
      refine (awake_any _).mono ?_
      rintro e w2 ⟨rfl, hb2⟩
      go_wp2_with fail
      go_ret
      exact ⟨rfl, HW4.trans (hb2.mono (HW4).size)⟩
theorem whole_walk (A : Option Addr) (n c : Nat) (l : List Int) (k : Int) (w : World) (h : IsInts .i64 w A n c l) (hk : (Lit.int .i64 k).wf = true) :
    Calls Try.prog 3 #[.slice A n c, .int .i64 k] w fun e w' => e = .returned (.bool true) ∧ Below w.heap.size w w' := by
  rcases Nat.lt_or_ge 300 n with h1 | h1
  · exact whole_long A n c k w (decide_eq_true (by omega))
  · exact whole_x A n c l k w h hk (decide_eq_false (by omega))
end Go.Proofs.Ythiiicgibcgipaa.Fs
