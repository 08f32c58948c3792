/- Contracts of Find of forder and of the reference, of Nums and Round: what each returns, for every list of numbers. -/
import Derived.Test.YteekeoenbackcaaFoB
import Derived.Deep.LoopGhost
namespace Go.Proofs.Yteekeoenbackcaa.So
set_option linter.unusedSimpArgs false
set_option linter.unusedVariables false
open Go.RowKit Go.Sort Go.Lib Fl Fb
attribute [local go_sem] u64_unsigned

theorem add_succ_ (ad : Addr) (j : Nat) : ad.add (j + 1) = ⟨ad.block, ad.off + (j + 1), none⟩ := by simp [Addr.add]
theorem add_zero_ (ad : Addr) : ad.add 0 = ad := rfl
theorem nums_cell {w : World} {ad : Addr} {n c : Nat} {l : List Nat} (h : IsNums w (some ad) n c l) {j : Nat} (hj : j < n) : w.cell? (ad.add j) = some (.float .f64 (l.getD j 0)) := by
  obtain ⟨ad2, e, _, hc⟩ := h.rd.get (k := j) (by rw [List.length_map, h.len]; exact hj)
  injection e with e
  subst e
  rw [List.getElem_map] at hc
  rw [hc, List.getD_eq_getElem?_getD, List.getElem?_eq_getElem (by rw [h.len]; exact hj)]
  rfl
theorem nums_ad {w : World} {A : Option Addr} {n c : Nat} {l : List Nat} (h : IsNums w A n c l) (h0 : 0 < n) : ∃ ad, A = some ad := by
  obtain ⟨ad, e, _⟩ := h.rd.get (k := 0) (by rw [List.length_map, h.len]; exact h0)
  exact ⟨ad, e⟩
set_option maxHeartbeats 1000000 in
theorem iss_none (A : Option Addr) (c : Nat) (w : World) :
    Calls Try.prog 36 #[.slice A 0 c, .func (.func 14) #[] #[]] w fun e w' => e = .returned (.bool true) ∧ w = w' := by
  go_enter Try.func36, Try.ntmps36
  go_wp2_with fail
  go_loopw [5] (fun v wr => v = .int .i64 (-1) ∧ wr = w) (fun _ _ => 0)
  case atStart => exact ⟨rfl, rfl⟩
  case round =>
    obtain ⟨rfl, rfl⟩ := hrel
    go_wp2_with fail
    go_ret
    exact ⟨rfl, rfl⟩
set_option maxHeartbeats 4000000 in
theorem iss_some (ad : Addr) (m c : Nat) (l : List Nat) (w : World) (h : IsNums w (some ad) (m + 1) c l) (hn : m + 1 ≤ 1000) :
    Calls Try.prog 36 #[.slice (some ad) (m + 1) c, .func (.func 14) #[] #[]] w fun e w' => e = .returned (.bool (risB l)) ∧ ∃ q, w' = w.drewN q := by
  have hl := h.len
  go_enter Try.func36, Try.ntmps36
  go_wp2_with fail
  go_loopw [5] (fun v wr => ∃ (k q : Nat), k ≤ m ∧ v = .int .i64 k ∧ Hid (∀ i, k ≤ i → i + 1 < l.length → ky l i ≤ ky l (i + 1)) ∧ wr = w.drewN q) (fun v _ => (intOf v).toNat)
  case atStart => exact ⟨m, 0, Nat.le_refl _, rfl, (fun i h1 h2 => by omega), rfl⟩
  case round =>
    obtain ⟨k, q, hk, rfl, HA, rfl⟩ := hrel
    by_cases hk0 : k = 0
    · subst hk0
      have HR := Lib.hid (show risB l = true from ris_true fun i hi => HA.out i (by omega) hi)
      go_wp2_with fail
      go_ret
      exact ⟨ret_bool (by rw [HR.out]), q, rfl⟩
    · obtain ⟨j, rfl⟩ : ∃ j, k = j + 1 := ⟨k - 1, by omega⟩
      have j1 : (j : Int) + 1 < ((m + 1 : Nat) : Int) := by omega
      have j11 : (j : Int) + 1 < (m : Int) + 1 := by omega
      have j2 : (j : Int) < ((m + 1 : Nat) : Int) := by omega
      have j22 : (j : Int) < (m : Int) + 1 := by omega
      have hk1 := getD_lt h.wf (j + 1)
      have hk2 := getD_lt h.wf j
      have c1 := nums_cell h (j := j + 1) (by omega)
      have c2 := nums_cell h (j := j) (by omega)
      rw [add_succ_ ad j] at c1
      have j0 : (0 : Int) ≤ (j : Int) := by omega
      have j3 : (0 : Int) ≤ (j : Int) + 1 := by omega
      have j4 : (j : Int) + 1 ≤ 1000 := by omega
      obtain ⟨x, hx⟩ : ∃ x, l.getD (j + 1) 0 = x := ⟨_, rfl⟩
      obtain ⟨y, hy⟩ : ∃ y, l.getD j 0 = y := ⟨_, rfl⟩
      rw [hx] at hk1 c1
      rw [hy] at hk2 c2
      have HX := Lib.hid hx
      have HY := Lib.hid hy
      clear hx hy
      by_cases hlt2 : keyV x < keyV y
      · have t1 : decide (cmpN (keyV x) (keyV y) < 0) = true := decide_eq_true ((cmpN_neg _ _).2 hlt2)
        have HR := Lib.hid (show risB l = false from ris_false (i := j) (by omega) (by unfold ky; rw [HX.out, HY.out]; exact hlt2))
        clear hlt2
        have jw : IntKind.i64.wrap (j : Int) = j := IntWalk.i64_in _ (by omega)
        go_wp2_with fail
        refine wp_region_held_drew (S := Drawn w) (by kernel_rfl) (by first | exact Drawn.of _ _ | exact Drawn.one _) (fun hHeld => ?_)
        refine wpAnyH_take (i := 0) (v := ?v37_0) (by simp only [List.getElem?_toArray, List.getElem?_cons_succ, List.getElem?_cons_zero]; rfl) (by kernel_rfl) (by kernel_rfl) (by kernel_rfl) (by exact fun _ _ _ h => h) (Or.inl ⟨by rfl, ?h37_0⟩) hHeld ?_
        case h37_0 => (intro w' hSw; obtain ⟨m, rfl⟩ := hSw; go_simp <;> with_reducible rfl)
        try simp only [Act.put, List.setIfInBounds_toArray, List.set_cons_zero, List.set_cons_succ]
        refine wpAnyH_take (i := 1) (v := ?v38_1) (by simp only [List.getElem?_toArray, List.getElem?_cons_succ, List.getElem?_cons_zero]; rfl) (by kernel_rfl) (by kernel_rfl) (by kernel_rfl) (by exact fun _ _ _ h => h) (Or.inl ⟨by rfl, ?h38_1⟩) hHeld ?_
        case h38_1 => (intro w' hSw; obtain ⟨m, rfl⟩ := hSw; go_simp <;> with_reducible rfl)
        try simp only [Act.put, List.setIfInBounds_toArray, List.set_cons_zero, List.set_cons_succ]
        refine wpAnyH_take (i := 2) (v := ?v39_2) (by simp only [List.getElem?_toArray, List.getElem?_cons_succ, List.getElem?_cons_zero]; rfl) (by kernel_rfl) (by kernel_rfl) (by kernel_rfl) (by exact fun _ _ _ h => h) (Or.inl ⟨by rfl, ?h39_2⟩) hHeld ?_
        case h39_2 => (intro w' hSw; obtain ⟨m, rfl⟩ := hSw; go_simp <;> with_reducible rfl)
        try simp only [Act.put, List.setIfInBounds_toArray, List.set_cons_zero, List.set_cons_succ]
        refine wpAnyH_take (i := 3) (v := ?v40_3) (by simp only [List.getElem?_toArray, List.getElem?_cons_succ, List.getElem?_cons_zero]; rfl) (by kernel_rfl) (by kernel_rfl) (by kernel_rfl) (by exact fun _ _ _ h => h) (Or.inl ⟨by rfl, ?h40_3⟩) hHeld ?_
        case h40_3 => (intro w' hSw; obtain ⟨m, rfl⟩ := hSw; go_simp <;> with_reducible rfl)
        try simp only [Act.put, List.setIfInBounds_toArray, List.set_cons_zero, List.set_cons_succ]
        refine wpAnyH_take (i := 4) (v := ?v41_4) (by simp only [List.getElem?_toArray, List.getElem?_cons_succ, List.getElem?_cons_zero]; rfl) (by kernel_rfl) (by kernel_rfl) (by kernel_rfl) (by exact fun _ _ _ h => h) (Or.inl ⟨by rfl, ?h41_4⟩) hHeld ?_
        case h41_4 => (intro w' hSw; obtain ⟨m, rfl⟩ := hSw; go_simp <;> with_reducible rfl)
        try simp only [Act.put, List.setIfInBounds_toArray, List.set_cons_zero, List.set_cons_succ]
        refine wpAnyH_take (i := 5) (v := ?v42_5) (by simp only [List.getElem?_toArray, List.getElem?_cons_succ, List.getElem?_cons_zero]; rfl) (by kernel_rfl) (by kernel_rfl) (by kernel_rfl) (by exact fun _ _ _ h => h) (Or.inl ⟨by rfl, ?h42_5⟩) hHeld ?_
        case h42_5 => (intro w' hSw; obtain ⟨m, rfl⟩ := hSw; go_simp <;> with_reducible rfl)
        try simp only [Act.put, List.setIfInBounds_toArray, List.set_cons_zero, List.set_cons_succ]
        refine wpAnyH_take (i := 6) (v := ?v43_6) (by simp only [List.getElem?_toArray, List.getElem?_cons_succ, List.getElem?_cons_zero]; rfl) (by kernel_rfl) (by kernel_rfl) (by kernel_rfl) (by exact fun _ _ _ h => h) (Or.inl ⟨by rfl, ?h43_6⟩) hHeld ?_
        case h43_6 => (intro w' hSw; obtain ⟨m, rfl⟩ := hSw; go_simp <;> with_reducible rfl)
        try simp only [Act.put, List.setIfInBounds_toArray, List.set_cons_zero, List.set_cons_succ]
        refine wpAnyH_take (i := 7) (v := ?v44_7) (by simp only [List.getElem?_toArray, List.getElem?_cons_succ, List.getElem?_cons_zero]; rfl) (by kernel_rfl) (by kernel_rfl) (by kernel_rfl) (by exact fun _ _ _ h => h) (Or.inl ⟨by rfl, ?h44_7⟩) hHeld ?_
        case h44_7 => (intro w' hSw; obtain ⟨m, rfl⟩ := hSw; go_simp <;> with_reducible rfl)
        try simp only [Act.put, List.setIfInBounds_toArray, List.set_cons_zero, List.set_cons_succ]
        refine wpAnyH_take (i := 8) (v := ?v45_8) (by simp only [List.getElem?_toArray, List.getElem?_cons_succ, List.getElem?_cons_zero]; rfl) (by kernel_rfl) (by kernel_rfl) (by kernel_rfl) (by exact fun _ _ _ h => h) (Or.inl ⟨by rfl, ?h45_8⟩) hHeld ?_
        case h45_8 => (intro w' hSw; obtain ⟨m, rfl⟩ := hSw; go_simp <;> with_reducible rfl)
        try simp only [Act.put, List.setIfInBounds_toArray, List.set_cons_zero, List.set_cons_succ]
        refine wpAnyH_take (i := 9) (v := ?v46_9) (by simp only [List.getElem?_toArray, List.getElem?_cons_succ, List.getElem?_cons_zero]; rfl) (by kernel_rfl) (by kernel_rfl) (by kernel_rfl) (by exact fun _ _ _ h => h) (Or.inl ⟨by rfl, ?h46_9⟩) hHeld ?_
        case h46_9 => (intro w' hSw; obtain ⟨m, rfl⟩ := hSw; go_simp <;> with_reducible rfl)
        try simp only [Act.put, List.setIfInBounds_toArray, List.set_cons_zero, List.set_cons_succ]
        refine wpAnyH_ready (rs := [10]) (by kernel_rfl) (by simp) ?_
        refine AllReadyH.cons (by simp only [List.getElem?_toArray, List.getElem?_cons_succ, List.getElem?_cons_zero]; rfl) (fun K hK => ?_) AllReadyH.nil
        go_simp
        refine (cmp_any _ _ _ hk1 hk2).mono ?_
        rintro e w' ⟨rfl, rfl⟩
        go_simp
        refine hK.out _ _ ⟨_, rfl⟩ (fun hHeld2 => ?_)
        clear hK K hHeld
        rename Drawn _ _ => hHeld
        try simp only [Act.put, List.setIfInBounds_toArray, List.set_cons_zero, List.set_cons_succ]
        refine wpAnyH_take (i := 11) (v := ?v47_11) (by simp only [List.getElem?_toArray, List.getElem?_cons_succ, List.getElem?_cons_zero]; rfl) (by kernel_rfl) (by kernel_rfl) (by kernel_rfl) (by exact fun _ _ _ h => h) (Or.inl ⟨by rfl, ?h47_11⟩) hHeld ?_
        case h47_11 => (intro w' hSw; obtain ⟨m, rfl⟩ := hSw; go_simp <;> with_reducible rfl)
        try simp only [Act.put, List.setIfInBounds_toArray, List.set_cons_zero, List.set_cons_succ]
        refine wpAnyH_done (by kernel_rfl) ?_ _
        go_wp2_with fail
        go_ret
        exact ⟨ret_bool (by rw [HR.out]), _, rfl⟩
      · have t1 : decide (cmpN (keyV x) (keyV y) < 0) = false := decide_eq_false (fun hh => hlt2 ((cmpN_neg _ _).1 hh))
        have HL := Lib.hid (show keyV y ≤ keyV x by omega)
        clear hlt2
        have jw : IntKind.i64.wrap (j : Int) = j := IntWalk.i64_in _ (by omega)
        go_wp2_with fail
        refine wp_region_held_drew (S := Drawn w) (by kernel_rfl) (by first | exact Drawn.of _ _ | exact Drawn.one _) (fun hHeld => ?_)
        refine wpAnyH_take (i := 0) (v := ?v48_0) (by simp only [List.getElem?_toArray, List.getElem?_cons_succ, List.getElem?_cons_zero]; rfl) (by kernel_rfl) (by kernel_rfl) (by kernel_rfl) (by exact fun _ _ _ h => h) (Or.inl ⟨by rfl, ?h48_0⟩) hHeld ?_
        case h48_0 => (intro w' hSw; obtain ⟨m, rfl⟩ := hSw; go_simp <;> with_reducible rfl)
        try simp only [Act.put, List.setIfInBounds_toArray, List.set_cons_zero, List.set_cons_succ]
        refine wpAnyH_take (i := 1) (v := ?v49_1) (by simp only [List.getElem?_toArray, List.getElem?_cons_succ, List.getElem?_cons_zero]; rfl) (by kernel_rfl) (by kernel_rfl) (by kernel_rfl) (by exact fun _ _ _ h => h) (Or.inl ⟨by rfl, ?h49_1⟩) hHeld ?_
        case h49_1 => (intro w' hSw; obtain ⟨m, rfl⟩ := hSw; go_simp <;> with_reducible rfl)
        try simp only [Act.put, List.setIfInBounds_toArray, List.set_cons_zero, List.set_cons_succ]
        refine wpAnyH_take (i := 2) (v := ?v50_2) (by simp only [List.getElem?_toArray, List.getElem?_cons_succ, List.getElem?_cons_zero]; rfl) (by kernel_rfl) (by kernel_rfl) (by kernel_rfl) (by exact fun _ _ _ h => h) (Or.inl ⟨by rfl, ?h50_2⟩) hHeld ?_
        case h50_2 => (intro w' hSw; obtain ⟨m, rfl⟩ := hSw; go_simp <;> with_reducible rfl)
        try simp only [Act.put, List.setIfInBounds_toArray, List.set_cons_zero, List.set_cons_succ]
        refine wpAnyH_take (i := 3) (v := ?v51_3) (by simp only [List.getElem?_toArray, List.getElem?_cons_succ, List.getElem?_cons_zero]; rfl) (by kernel_rfl) (by kernel_rfl) (by kernel_rfl) (by exact fun _ _ _ h => h) (Or.inl ⟨by rfl, ?h51_3⟩) hHeld ?_
        case h51_3 => (intro w' hSw; obtain ⟨m, rfl⟩ := hSw; go_simp <;> with_reducible rfl)
        try simp only [Act.put, List.setIfInBounds_toArray, List.set_cons_zero, List.set_cons_succ]
        refine wpAnyH_take (i := 4) (v := ?v52_4) (by simp only [List.getElem?_toArray, List.getElem?_cons_succ, List.getElem?_cons_zero]; rfl) (by kernel_rfl) (by kernel_rfl) (by kernel_rfl) (by exact fun _ _ _ h => h) (Or.inl ⟨by rfl, ?h52_4⟩) hHeld ?_
        case h52_4 => (intro w' hSw; obtain ⟨m, rfl⟩ := hSw; go_simp <;> with_reducible rfl)
        try simp only [Act.put, List.setIfInBounds_toArray, List.set_cons_zero, List.set_cons_succ]
        refine wpAnyH_take (i := 5) (v := ?v53_5) (by simp only [List.getElem?_toArray, List.getElem?_cons_succ, List.getElem?_cons_zero]; rfl) (by kernel_rfl) (by kernel_rfl) (by kernel_rfl) (by exact fun _ _ _ h => h) (Or.inl ⟨by rfl, ?h53_5⟩) hHeld ?_
        case h53_5 => (intro w' hSw; obtain ⟨m, rfl⟩ := hSw; go_simp <;> with_reducible rfl)
        try simp only [Act.put, List.setIfInBounds_toArray, List.set_cons_zero, List.set_cons_succ]
        refine wpAnyH_take (i := 6) (v := ?v54_6) (by simp only [List.getElem?_toArray, List.getElem?_cons_succ, List.getElem?_cons_zero]; rfl) (by kernel_rfl) (by kernel_rfl) (by kernel_rfl) (by exact fun _ _ _ h => h) (Or.inl ⟨by rfl, ?h54_6⟩) hHeld ?_
        case h54_6 => (intro w' hSw; obtain ⟨m, rfl⟩ := hSw; go_simp <;> with_reducible rfl)
        try simp only [Act.put, List.setIfInBounds_toArray, List.set_cons_zero, List.set_cons_succ]
        refine wpAnyH_take (i := 7) (v := ?v55_7) (by simp only [List.getElem?_toArray, List.getElem?_cons_succ, List.getElem?_cons_zero]; rfl) (by kernel_rfl) (by kernel_rfl) (by kernel_rfl) (by exact fun _ _ _ h => h) (Or.inl ⟨by rfl, ?h55_7⟩) hHeld ?_
        case h55_7 => (intro w' hSw; obtain ⟨m, rfl⟩ := hSw; go_simp <;> with_reducible rfl)
        try simp only [Act.put, List.setIfInBounds_toArray, List.set_cons_zero, List.set_cons_succ]
        refine wpAnyH_take (i := 8) (v := ?v56_8) (by simp only [List.getElem?_toArray, List.getElem?_cons_succ, List.getElem?_cons_zero]; rfl) (by kernel_rfl) (by kernel_rfl) (by kernel_rfl) (by exact fun _ _ _ h => h) (Or.inl ⟨by rfl, ?h56_8⟩) hHeld ?_
        case h56_8 => (intro w' hSw; obtain ⟨m, rfl⟩ := hSw; go_simp <;> with_reducible rfl)
        try simp only [Act.put, List.setIfInBounds_toArray, List.set_cons_zero, List.set_cons_succ]
        refine wpAnyH_take (i := 9) (v := ?v57_9) (by simp only [List.getElem?_toArray, List.getElem?_cons_succ, List.getElem?_cons_zero]; rfl) (by kernel_rfl) (by kernel_rfl) (by kernel_rfl) (by exact fun _ _ _ h => h) (Or.inl ⟨by rfl, ?h57_9⟩) hHeld ?_
        case h57_9 => (intro w' hSw; obtain ⟨m, rfl⟩ := hSw; go_simp <;> with_reducible rfl)
        try simp only [Act.put, List.setIfInBounds_toArray, List.set_cons_zero, List.set_cons_succ]
        refine wpAnyH_ready (rs := [10]) (by kernel_rfl) (by simp) ?_
        refine AllReadyH.cons (by simp only [List.getElem?_toArray, List.getElem?_cons_succ, List.getElem?_cons_zero]; rfl) (fun K hK => ?_) AllReadyH.nil
        go_simp
        refine (cmp_any _ _ _ hk1 hk2).mono ?_
        rintro e w' ⟨rfl, rfl⟩
        go_simp
        refine hK.out _ _ ⟨_, rfl⟩ (fun hHeld2 => ?_)
        clear hK K hHeld
        rename Drawn _ _ => hHeld
        try simp only [Act.put, List.setIfInBounds_toArray, List.set_cons_zero, List.set_cons_succ]
        refine wpAnyH_take (i := 11) (v := ?v58_11) (by simp only [List.getElem?_toArray, List.getElem?_cons_succ, List.getElem?_cons_zero]; rfl) (by kernel_rfl) (by kernel_rfl) (by kernel_rfl) (by exact fun _ _ _ h => h) (Or.inl ⟨by rfl, ?h58_11⟩) hHeld ?_
        case h58_11 => (intro w' hSw; obtain ⟨m, rfl⟩ := hSw; go_simp <;> with_reducible rfl)
        try simp only [Act.put, List.setIfInBounds_toArray, List.set_cons_zero, List.set_cons_succ]
        refine wpAnyH_done (by kernel_rfl) ?_ _
        clear jw
        go_wp2_with fail
        go_roundw
        case rel => exact ⟨j, _, by omega, by go_num, fun i h1 h2 => by
            by_cases e : i = j
            · subst e; unfold ky; rw [HX.out, HY.out]; exact HL.out
            · exact HA.out i (by omega) h2, rfl⟩
        case measure => simp [intOf] <;> omega
set_option maxHeartbeats 1000000 in
theorem bs_none (A : Option Addr) (c x : Nat) (w : World) :
    Calls Try.prog 37 #[.slice A 0 c, .float .f64 x, .func (.func 14) #[] #[]] w fun e w' => e = .returned (.tuple #[.int .i64 0, .bool false]) ∧ w = w' := by
  go_enter Try.func37, Try.ntmps37
  go_wp2_with fail
  go_loopw [9, 10] (fun u v wr => u = .int .i64 0 ∧ v = .int .i64 0 ∧ wr = w) (fun _ _ _ => 0)
  case atStart => exact ⟨rfl, rfl, rfl⟩
  case round =>
    obtain ⟨rfl, rfl, rfl⟩ := hrel
    go_wp2_with fail
    go_ret2
    exact ⟨rfl, rfl⟩
set_option maxHeartbeats 4000000 in
theorem bs_some (ad : Addr) (n c x : Nat) (l : List Nat) (w : World) (h : IsNums w (some ad) n c l) (hn : n ≤ 1000) (hx : lt64 x) (hris : risB l = true) :
    Calls Try.prog 37 #[.slice (some ad) n c, .float .f64 x, .func (.func 14) #[] #[]] w fun e w' => e = .returned (.tuple #[.int .i64 (lowB l x : Nat), .bool (metB l x)]) ∧ w = w' := by
  have hl := h.len
  have HM := Lib.hid (ris_get hris)
  clear hris
  go_enter Try.func37, Try.ntmps37
  go_wp2_with fail
  go_loopg [9, 10] n (fun kx s9 s10 wr => ∃ lo hi : Nat, s9 = .int .i64 lo ∧ s10 = .int .i64 hi ∧ lo ≤ hi ∧ hi ≤ n ∧ hi - lo ≤ kx ∧ wr = w ∧ Hid ((∀ t, t < lo → ky l t < keyV x) ∧ (∀ t, hi ≤ t → t < n → keyV x ≤ ky l t)))
  case atStart => exact ⟨0, n, rfl, rfl, Nat.zero_le _, Nat.le_refl _, by omega, rfl, ⟨fun t ht => absurd ht (Nat.not_lt_zero _), fun t h1 h2 => by omega⟩⟩
  case round =>
    obtain ⟨lo, hi, rfl, rfl, hlh, hin, hg, rfl, HI⟩ := hrel
    by_cases hlt : lo < hi
    · have hm1 : (lo + hi) / 2 < n := by omega
      have cm := nums_cell h hm1
      have hy0 := getD_lt h.wf ((lo + hi) / 2)
      obtain ⟨y, hy⟩ : ∃ y, l.getD ((lo + hi) / 2) 0 = y := ⟨_, rfl⟩
      rw [hy] at cm hy0
      have HY := Lib.hid hy
      clear hy
      by_cases hyx : keyV y < keyV x
      · have t1 : decide (cmpN (keyV y) (keyV x) < 0) = true := decide_eq_true ((cmpN_neg _ _).2 hyx)
        have HK := Lib.hid hyx
        clear hyx
        go_wp2_with (go_at_call 14; refine (cmp_any _ _ _ hy0 hx).mono ?_; rintro e w' ⟨rfl, rfl⟩)
        go_roundg (hi - ((lo + hi) / 2 + 1))
        case measure => omega
        case rel => exact ⟨(lo + hi) / 2 + 1, hi, by rw [show ((lo : Int) + (hi : Int)) / 2 + 1 = (((lo + hi) / 2 + 1 : Nat) : Int) by omega], rfl, by omega, hin, Nat.le_refl _, rfl, ⟨fun t ht => by
            have h1 := HM.out ((lo + hi) / 2 - t) t (by omega)
            rw [show t + ((lo + hi) / 2 - t) = (lo + hi) / 2 by omega] at h1
            have h2 := HK.out
            have h3 : ky l ((lo + hi) / 2) = keyV y := by unfold ky; rw [HY.out]
            omega, HI.out.2⟩⟩
      · have t1 : decide (cmpN (keyV y) (keyV x) < 0) = false := decide_eq_false (fun hh => hyx ((cmpN_neg _ _).1 hh))
        have HK := Lib.hid (show keyV x ≤ keyV y by omega)
        clear hyx
        go_wp2_with (go_at_call 14; refine (cmp_any _ _ _ hy0 hx).mono ?_; rintro e w' ⟨rfl, rfl⟩)
        go_roundg ((lo + hi) / 2 - lo)
        case measure => omega
        case rel => exact ⟨lo, (lo + hi) / 2, rfl, by rw [show ((lo : Int) + (hi : Int)) / 2 = (((lo + hi) / 2 : Nat) : Int) by omega], by omega, by omega, Nat.le_refl _, rfl, ⟨HI.out.1, fun t ht htn => by
            have h1 := HM.out (t - (lo + hi) / 2) ((lo + hi) / 2) (by omega)
            rw [show (lo + hi) / 2 + (t - (lo + hi) / 2) = t by omega] at h1
            have h2 := HK.out
            have h3 : ky l ((lo + hi) / 2) = keyV y := by unfold ky; rw [HY.out]
            omega⟩⟩
    · obtain rfl : hi = lo := by omega
      have HL := Lib.hid (show lowB l x = hi from low_one (by omega) HI.out.1 fun hh => HI.out.2 hi (Nat.le_refl _) (by omega))
      by_cases hlt2 : hi < n
      · have cm := nums_cell h hlt2
        have hy0 := getD_lt h.wf hi
        obtain ⟨y, hy⟩ : ∃ y, l.getD hi 0 = y := ⟨_, rfl⟩
        rw [hy] at cm hy0
        have HF := Lib.hid (show metB l x = (cmpN (keyV y) (keyV x) == 0) by
          unfold metB; rw [HL.out, cmp_eq0, decide_eq_true (by omega), Bool.true_and]; unfold ky; rw [hy])
        clear hy
        go_wp2_with (go_at_call 14; refine (cmp_any _ _ _ hy0 hx).mono ?_; rintro e w' ⟨rfl, rfl⟩)
        go_ret2
        exact ⟨by rw [HF.out, HL.out]; rfl, rfl⟩
      · have HF := Lib.hid (show metB l x = false by unfold metB; rw [HL.out, decide_eq_false (by omega), Bool.false_and])
        go_wp2_with fail
        go_ret2
        exact ⟨by rw [HF.out, HL.out]; rfl, rfl⟩
@[irreducible] def findI (l : List Nat) (x : Nat) : Int := if risB l then ((lowB l x : Nat) : Int) else 0
@[irreducible] def findO (l : List Nat) (x : Nat) : Bool := risB l && metB l x
theorem find_no {l : List Nat} {x : Nat} (h : risB l = false) : findI l x = 0 ∧ findO l x = false := by unfold findI findO; rw [h]; exact ⟨rfl, rfl⟩
theorem find_yes {l : List Nat} {x : Nat} (h : risB l = true) : findI l x = (lowB l x : Nat) ∧ findO l x = metB l x := by unfold findI findO; rw [h]; exact ⟨rfl, rfl⟩
set_option maxHeartbeats 1000000 in
theorem find_some (ad : Addr) (m c x : Nat) (l : List Nat) (w : World) (h : IsNums w (some ad) (m + 1) c l) (hn : m + 1 ≤ 1000) (hx : lt64 x) :
    Calls Try.prog 24 #[.slice (some ad) (m + 1) c, .float .f64 x] w fun e w' => e = .returned (.tuple #[.int .i64 (findI l x), .bool (findO l x)]) ∧ ∃ q, w' = w.drewN q := by
  cases hr : risB l
  · have HC := hide' (iss_some ad m c l w h hn)
    rw [hr] at HC
    rw [(find_no (x := x) hr).1, (find_no (x := x) hr).2]
    go_enter Try.func24, Try.ntmps24
    go_wp2_with fail
    refine (unhide' HC).mono ?_
    rintro e w' ⟨rfl, q, rfl⟩
    go_wp2_with fail
    go_ret2
    exact ⟨rfl, q, rfl⟩
  · have HC := hide' (iss_some ad m c l w h hn)
    rw [hr] at HC
    rw [(find_yes (x := x) hr).1, (find_yes (x := x) hr).2]
    have HB := hide' fun q => bs_some ad (m + 1) c x l (w.drewN q) (h.drewN q) hn hx hr
    clear hr
    go_enter Try.func24, Try.ntmps24
    go_wp2_with fail
    refine (unhide' HC).mono ?_
    rintro e w' ⟨rfl, q, rfl⟩
    go_wp2_with fail
    refine ((unhide' HB) q).mono ?_
    rintro e w' ⟨rfl, rfl⟩
    go_wp2_with fail
    go_ret2
    exact ⟨rfl, q, rfl⟩
set_option maxHeartbeats 1000000 in
theorem find_none (A : Option Addr) (c x : Nat) (w : World) :
    Calls Try.prog 24 #[.slice A 0 c, .float .f64 x] w fun e w' => e = .returned (.tuple #[.int .i64 0, .bool false]) ∧ w = w' := by
  go_enter Try.func24, Try.ntmps24
  go_wp2_with fail
  refine (iss_none _ _ _).mono ?_
  rintro e w' ⟨rfl, rfl⟩
  go_wp2_with fail
  refine (bs_none _ _ _ _).mono ?_
  rintro e w' ⟨rfl, rfl⟩
  go_wp2_with fail
  go_ret2
  exact ⟨rfl, rfl⟩
end Go.Proofs.Yteekeoenbackcaa.So
